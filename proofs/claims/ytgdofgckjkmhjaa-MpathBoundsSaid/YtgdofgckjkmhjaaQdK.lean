/- The queue's take. Printed by k/gen_qdk.py. -/
import Derived.Test.YtgdofgckjkmhjaaQdU
import Derived.Test.YtgdofgckjkmhjaaQdD
import Derived.Test.YtgdofgckjkmhjaaQdT
namespace Go.Proofs.Ytgdofgckjkmhjaa.Qd
open Go Go.RowKit
set_option linter.unusedSimpArgs false in
set_option maxRecDepth 100000 in
set_option maxHeartbeats 6400000 in
theorem take_any (q g cap i : Nat) (I : Int) (room turns : Int) (h : List It) (rest : List Value) (w : World) (m : Qm w q g cap room turns h rest) (hi : i < h.length) (hb : h.length ≤ 1000000) (hI : I = (i : Int)) :
    Calls Try.prog 29 #[.pointer (some ⟨q, 0, none⟩), .int .i64 I] w fun e w' => e = .returned (.agg (itc (at_ h i)).toArray) ∧ Qm w' q g cap room turns (takeL h i) (itc (at_ h (h.length - 1)) ++ rest) ∧ Kept [q, g] w w' := by
  subst hI
  have hql := m.hq.lt
  have hgl := m.hg.lt
  have hne := m.hne
  have B1 := hx (Blk.new w (itc it0) 81)
  have K1 := hx ((Kept.refl [] w).alloc (.cells (itc it0).toArray 81))
  have M1 := hx (m.kept K1.out)
  have c2 : ∀ o, (w.alloc o).cell? ⟨q, 2, none⟩ = some (.slice (some ⟨g, 0, none⟩) h.length cap) := fun o => (m.hq.alloc o).cell (i := 2) rfl
  obtain ⟨n, hn⟩ : ∃ n, h.length = n + 1 := ⟨h.length - 1, by omega⟩
  have hn1 : h.length - 1 = n := by omega
  have hni : (i : Int) < (h.length : Int) := by omega
  have hnI : (h.length : Int) - 1 = (n : Int) := by omega
  have hnl : (n : Int) < (h.length : Int) := by omega
  have hn0 : (0 : Int) ≤ (n : Int) := by omega
  have hi0 : (0 : Int) ≤ (i : Int) := by omega
  have hnc : (n : Int) ≤ (cap : Int) := by have := m.hl; omega
  have hlb : (h.length : Int) ≤ 1000000 := by omega
  have HN := hx hn
  have HN1 := hx hn1
  have HI := hx hi
  have HNL := hx (show n < h.length by omega)
  clear m hn hn1 hi
  go_enter Try.func29, Try.ntmps29
  go_upto_region 2 with (first
    | (refine wpList_load_mid rfl 81 (.tmp 12) rfl g (i * 13) rfl (itc (at_ h i)) _ (M1.out.at i HI.out) Try.underlying81 rfl (by kernel_rfl) ?_)
    | (refine store_blk rfl 81 (.tmp 5) (.tmp 13) rfl (w.heap.size + 1) rfl 81 (itc it0) (itc (at_ h i)) rfl (by have h := Blk.new (w.alloc (.cells (itc it0).toArray 81)) (itc it0) 81; rw [show (w.alloc (.cells (itc it0).toArray 81)).heap.size = w.heap.size + 1 by simp] at h; exact h) rfl infoIt (itc_one _) ?_; intro w2 hb2 hk2; have B5 := hx hb2; have K2 := hx (((Kept.refl [] w).alloc _).trans (((Kept.refl [] _).alloc _).trans hk2 (ds := [w.heap.size + 1]) (by simp) (fun x h => .inl h)) (ds := []) (fun _ h => h) (fun x h => by simp at h; subst h; right; omega)); have B4 := hx (hk2.blk (B1.out.alloc _) (by simp)); have B2K := hx ((M1.out.frame (bs := []) ((Kept.refl [] _).alloc _) (by simp) (by simp)).frame hk2 (by simp; omega) (by simp; omega)); clear hb2 hk2))
  have M2 := hx (B2K.out)
  have c2 := M2.out.hq.cell (i := 2) rfl
  go_upto_region 3 with fail
  have MD := hx (M2.out.kept (Kept.refl [] w2).drew)
  have KD := hx (show Kept [g] w w2.drew from K2.out.drew.mono (by simp))
  have HNX := hx (And.intro HNL.out HI.out)
  go_cut [6] (fun s6 wx => s6 = .int .i64 n ∧ Qm wx q g cap room turns (h.set i (at_ h n)) rest ∧ Blk wx w.heap.size (itc it0) 81 ∧ Blk wx (w.heap.size + 1) (itc (at_ h i)) 81 ∧ Kept [g] w wx)
  case first =>
    refine wp_region_held_drew (S := (fun w3 => w3.cell? ⟨q, 2, none⟩ = some (.slice (some ⟨g, 0, none⟩) h.length cap))) (by kernel_rfl) (MD.out.hq.cell (i := 2) rfl) (fun hHeld => ?_)
    refine take_by 0 20 (v := ?_) rfl rfl (by kernel_rfl) (by kernel_rfl) (by kernel_rfl) (fun _ _ _ h => h) (Or.inl ⟨by rfl, ?_⟩) (by assumption) ?_
    rotate_left
    · (intro w hSw; (try dsimp only at hSw); go_simp; try with_reducible rfl)
    try simp only [List.setIfInBounds_toArray, List.set_cons_zero, List.set_cons_succ]
    refine take_by 1 21 (v := ?_) rfl rfl (by kernel_rfl) (by kernel_rfl) (by kernel_rfl) (fun _ _ _ h => h) (Or.inl ⟨by rfl, ?_⟩) (by assumption) ?_
    rotate_left
    · (intro w hSw; (try dsimp only at hSw); go_simp; try with_reducible rfl)
    try simp only [List.setIfInBounds_toArray, List.set_cons_zero, List.set_cons_succ]
    refine take_by 2 22 (v := ?_) rfl rfl (by kernel_rfl) (by kernel_rfl) (by kernel_rfl) (fun _ _ _ h => h) (Or.inl ⟨by rfl, ?_⟩) (by assumption) ?_
    rotate_left
    · (intro w hSw; (try dsimp only at hSw); go_simp; try with_reducible rfl)
    try simp only [List.setIfInBounds_toArray, List.set_cons_zero, List.set_cons_succ]
    refine take_by 3 23 (v := ?_) rfl rfl (by kernel_rfl) (by kernel_rfl) (by kernel_rfl) (fun _ _ _ h => h) (Or.inl ⟨by rfl, ?_⟩) (by assumption) ?_
    rotate_left
    · (intro w hSw; (try dsimp only at hSw); go_simp; try with_reducible rfl)
    try simp only [List.setIfInBounds_toArray, List.set_cons_zero, List.set_cons_succ]
    refine take_by 4 24 (v := ?_) rfl rfl (by kernel_rfl) (by kernel_rfl) (by kernel_rfl) (fun _ _ _ h => h) (Or.inl ⟨by rfl, ?_⟩) (by assumption) ?_
    rotate_left
    · (intro w hSw; (try dsimp only at hSw); go_simp; try with_reducible rfl)
    try simp only [List.setIfInBounds_toArray, List.set_cons_zero, List.set_cons_succ]
    refine take_by 5 25 (v := ?_) rfl rfl (by kernel_rfl) (by kernel_rfl) (by kernel_rfl) (fun _ _ _ h => h) (Or.inl ⟨by rfl, ?_⟩) (by assumption) ?_
    rotate_left
    · (intro w hSw; (try dsimp only at hSw); go_simp; try with_reducible rfl)
    try simp only [List.setIfInBounds_toArray, List.set_cons_zero, List.set_cons_succ]
    refine take_by 6 26 (v := ?_) rfl rfl (by kernel_rfl) (by kernel_rfl) (by kernel_rfl) (fun _ _ _ h => h) (Or.inl ⟨by rfl, ?_⟩) (by assumption) ?_
    rotate_left
    · (intro w hSw; (try dsimp only at hSw); go_simp; try with_reducible rfl)
    try simp only [List.setIfInBounds_toArray, List.set_cons_zero, List.set_cons_succ]
    refine take_by 7 27 (v := ?_) rfl rfl (by kernel_rfl) (by kernel_rfl) (by kernel_rfl) (fun _ _ _ h => h) (Or.inl ⟨by rfl, ?_⟩) (by assumption) ?_
    rotate_left
    · (intro w hSw; (try dsimp only at hSw); go_simp; try with_reducible rfl)
    try simp only [List.setIfInBounds_toArray, List.set_cons_zero, List.set_cons_succ]
    refine take_by 8 28 (v := ?_) rfl rfl (by kernel_rfl) (by kernel_rfl) (by kernel_rfl) (fun _ _ _ h => h) (Or.inl ⟨by rfl, ?_⟩) (by assumption) ?_
    rotate_left
    · (intro w hSw; (try dsimp only at hSw); go_simp; try with_reducible rfl)
    try simp only [List.setIfInBounds_toArray, List.set_cons_zero, List.set_cons_succ]
    refine take_by 9 29 (v := ?_) rfl rfl (by kernel_rfl) (by kernel_rfl) (by kernel_rfl) (fun _ _ _ h => h) (Or.inl ⟨by rfl, ?_⟩) (by assumption) ?_
    rotate_left
    · (intro w hSw; (try dsimp only at hSw); go_simp; try with_reducible rfl)
    try simp only [List.setIfInBounds_toArray, List.set_cons_zero, List.set_cons_succ]
    refine take_by 10 30 (v := ?_) rfl rfl (by kernel_rfl) (by kernel_rfl) (by kernel_rfl) (fun _ _ _ h => h) (Or.inl ⟨by rfl, ?_⟩) (by assumption) ?_
    rotate_left
    · (intro w hSw; (try dsimp only at hSw); go_simp; try with_reducible rfl)
    try simp only [List.setIfInBounds_toArray, List.set_cons_zero, List.set_cons_succ]
    refine wpAnyH_ready (rs := [11]) (by kernel_rfl) (by simp) ?_
    refine AllReadyH.cons rfl (fun K hK => ?_) AllReadyH.nil
    refine wp_loadIt rfl (.tmp 30) rfl MD.out HNX.out.1 rfl ?_
    refine hK.out _ _ (MD.out.hq.cell (i := 2) rfl) (fun _ => ?_)
    clear hK K
    try simp only [Act.put, List.getElem_toArray, List.getElem_cons_succ, List.getElem_cons_zero, List.setIfInBounds_toArray, List.set_cons_zero, List.set_cons_succ]
    refine take_by 12 32 (v := ?_) rfl rfl (by kernel_rfl) (by kernel_rfl) (by kernel_rfl) (fun _ _ _ h => h) (Or.inl ⟨by rfl, ?_⟩) (by assumption) ?_
    rotate_left
    · (intro w hSw; (try dsimp only at hSw); go_simp; try with_reducible rfl)
    try simp only [List.setIfInBounds_toArray, List.set_cons_zero, List.set_cons_succ]
    refine wpAnyH_ready (rs := [13]) (by kernel_rfl) (by simp) ?_
    refine AllReadyH.cons rfl (fun K hK => ?_) AllReadyH.nil
    refine wp_storeIt rfl (.tmp 32) (.tmp 31) rfl MD.out (HNX.out.2) (at_ h n) rfl rfl KD.out (.inl (by simp)) ?_
    intro wa ma ka za ba
    have Ma := hx ma
    have Za := hx za
    have Ba := hx ba
    have Xa := hx ka
    have hh := ma.hq.cell (i := 2) rfl
    simp only [List.length_set] at hh
    clear ma ka za ba
    refine hK.out _ _ hh (fun _ => ?_)
    clear hK K hh
    try simp only [Act.put, List.getElem_toArray, List.getElem_cons_succ, List.getElem_cons_zero, List.setIfInBounds_toArray, List.set_cons_zero, List.set_cons_succ]
    refine wpAnyH_done (by kernel_rfl) ?_ _
    go_wp2_with fail
    go_meet
    exact ⟨rfl, Ma.out, Ba.out _ _ _ (by omega) B4.out.drew, Ba.out _ _ _ (by omega) B5.out.drew, Xa.out⟩
  case rest =>
    obtain ⟨rfl, m1, hB4, hB5, hk1⟩ := hcut
    clear c2 MD KD M2 B4 B5 K2 B2K M1 K1 B1
    have d2 := m1.hq.cell (i := 2) rfl
    rw [List.length_set] at d2
    have d2' : wc.cell? ⟨q, 2, none⟩ = some (.slice (some ⟨g, 0, none⟩) h.length cap) := d2
    have f2 := m1.hq.free
    have m1' := m1
    rw [← HN1.out] at m1'
    have m2 := Qm.cut i HI.out m1' n HN1.out
    have e4 := hB4.set_ne (a := ⟨q, 2, none⟩) (by simp; omega) (.slice (some ⟨g, 0, none⟩) n cap)
    have e5 := hB5.set_ne (a := ⟨q, 2, none⟩) (by simp; omega) (.slice (some ⟨g, 0, none⟩) n cap)
    have hk2 : Kept [q, g] w (wc.setCell ⟨q, 2, none⟩ (.slice (some ⟨g, 0, none⟩) n cap)) := (hk1.mono (by intro x hx; left; simp at hx; simp [hx])).setCell (.inl (by simp)) _
    have hlen1 := cut_len h i
    have HT := hx (show takeL h i = if i < h.length - 1 then upL (downL ((h.set i (at_ h (h.length - 1))).take (h.length - 1)) i) i else (h.set i (at_ h (h.length - 1))).take (h.length - 1) from rfl)
    generalize (h.set i (at_ h (h.length - 1))).take (h.length - 1) = h1 at *
    have HL1 := hx hlen1
    have M2 := hx m2
    have K2 := hx hk2
    have E4 := hx e4
    have E5 := hx e5
    clear d2 m1 m1' m2 hB4 hB5 hk1 e4 e5 hk2 hlen1
    by_cases hlt : i < n
    · have hlt' : (i : Int) < (n : Int) := by omega
      have HT2 := hx (show takeL h i = upL (downL h1 i) i by rw [HT.out, if_pos (by rw [HN1.out]; exact hlt)])
      have hl1 : i < h1.length := by rw [HL1.out, HN1.out]; exact hlt
      have hb1 : h1.length ≤ 1000000 := by rw [HL1.out]; omega
      have hl2 : i < (downL h1 i).length := by rw [down_len h1.length _ _ (by omega)]; exact hl1
      have hb2 : (downL h1 i).length ≤ 1000000 := by rw [down_len h1.length _ _ (by omega)]; exact hb1
      go_wp2_with fail
      refine (down_any q g cap i room turns h1 _ _ M2.out hl1 hb1).mono ?_
      rintro e w3 ⟨rfl, m3, hk3⟩
      clear d2' f2
      go_wp2_with fail
      refine (up_any q g cap i room turns _ _ _ m3 hl2 hb2).mono ?_
      rintro e w4 ⟨rfl, m4, hk4⟩
      rw [← HT2.out] at m4
      have hk24 : Kept [g] (wc.setCell ⟨q, 2, none⟩ (.slice (some ⟨g, 0, none⟩) n cap)) w4 := hk3.trans1 hk4
      have hk04 : Kept [q, g] w w4 := K2.out.trans hk24 (fun _ h => h) (by intro x hx; left; simp at hx; simp [hx])
      have b4 := hk24.blk E4.out (by simp; omega)
      have b5 := hk24.blk E5.out (by simp; omega)
      clear m3 hk3 hk4 hk24
      go_wp2_with (first
        | (refine load_blk rfl 81 (.tmp 5) rfl (w.heap.size + 1) rfl 81 _ _ b5 Try.underlying81 rfl infoIt ?_)
        | (refine store_blk rfl 81 (.tmp 4) (.tmp 51) rfl w.heap.size rfl 81 _ (itc (at_ h i)) rfl b4 rfl infoIt (itc_one _) ?_; intro w5 hb5 hk5; have HB5 := hx hb5; have HK5 := hx hk5; clear hb5 hk5))
      exact bodyPost_ret (ret_blk rfl _ w.heap.size _ _ _ rfl HB5.out Try.underlying81 rfl infoIt) rfl ⟨rfl, m4.frame HK5.out (by simp; omega) (by simp; omega), hk04.trans HK5.out (fun _ h => h) (by intro x hx; right; simp at hx; omega)⟩
    · have hlt' : ¬ (i : Int) < (n : Int) := by omega
      have HT2 := hx (show takeL h i = h1 by rw [HT.out, if_neg (by rw [HN1.out]; exact hlt)])
      have m4 := M2.out
      rw [← HT2.out] at m4
      have M4 := hx m4
      clear m4
      go_wp2_with (first
        | (refine load_blk rfl 81 (.tmp 5) rfl (w.heap.size + 1) rfl 81 _ _ E5.out Try.underlying81 rfl infoIt ?_)
        | (refine store_blk rfl 81 (.tmp 4) (.tmp 51) rfl w.heap.size rfl 81 _ (itc (at_ h i)) rfl E4.out rfl infoIt (itc_one _) ?_; intro w5 hb5 hk5; have HB5 := hx hb5; have HK5 := hx hk5; clear hb5 hk5))
      exact bodyPost_ret (ret_blk rfl _ w.heap.size _ _ _ rfl HB5.out Try.underlying81 rfl infoIt) rfl ⟨rfl, M4.out.frame HK5.out (by simp; omega) (by simp; omega), K2.out.trans HK5.out (fun _ h => h) (by intro x hx; right; simp at hx; omega)⟩
end Go.Proofs.Ytgdofgckjkmhjaa.Qd
