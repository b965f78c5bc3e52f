import Derived.Test.YthpdoekeooedfaaPrioT
namespace Go.Proofs.Ythpdoekeooedfaa
open Go Go.RowKit
theorem cel_app (a b : List It) : cel (a ++ b) = cel a ++ cel b := by simp [cel]
/-- The cells when the last item is cut off. -/
theorem cel_cut (h : List It) (i : Nat) (hi : i < h.length) : cel (h.set i (at_ h (h.length - 1))) = cel ((h.set i (at_ h (h.length - 1))).take (h.length - 1)) ++ itc (at_ h (h.length - 1)) := by
  have hl : (h.set i (at_ h (h.length - 1))).length = h.length := by simp
  have hs : h.set i (at_ h (h.length - 1)) = (h.set i (at_ h (h.length - 1))).take (h.length - 1) ++ [at_ h (h.length - 1)] := by
    have h1 := List.take_append_drop (h.length - 1) (h.set i (at_ h (h.length - 1)))
    rw [List.drop_eq_getElem_cons (by omega), List.drop_of_length_le (by omega)] at h1
    have h2 : (h.set i (at_ h (h.length - 1)))[h.length - 1]'(by omega) = at_ h (h.length - 1) := by
      rw [← at_get _ _ (by omega), at_set _ _ _ _ hi]
      split
      · rfl
      · rfl
    rw [h2] at h1
    exact h1.symm
  conv => lhs; rw [hs, cel_app]
  simp [cel]
theorem Qm.frame {w w' : World} {q g cap : Nat} {room turns : Int} {h : List It} {rest : List Value} (m : Qm w q g cap room turns h rest) {bs : List Nat} (hk : Kept bs w w') (h1 : q ∉ bs) (h2 : g ∉ bs) : Qm w' q g cap room turns h rest :=
  ⟨hk.blk m.hq h1, hk.blk m.hg h2, m.hl, m.hcap, m.hrest, m.hne⟩
theorem infoIt : (Try.prog.info? 55).map (·.size) = some 3 := by kernel_rfl
theorem itc_one (x : It) : ∀ v ∈ itc x, v.oneCell' = true := by
  intro v hv
  simp only [itc, List.mem_cons, List.not_mem_nil, or_false] at hv
  rcases hv with rfl | rfl | rfl <;> rfl
/-- The last item is cut off. -/
theorem Qm.cut {w : World} {q g cap : Nat} {room turns : Int} {h : List It} {rest : List Value} (i : Nat) (hi : i < h.length) (m : Qm w q g cap room turns (h.set i (at_ h (h.length - 1))) rest) (n : Nat) (hn : h.length - 1 = n) :
    Qm (w.setCell ⟨q, 2, none⟩ (.slice (some ⟨g, 0, none⟩) n cap)) q g cap room turns ((h.set i (at_ h (h.length - 1))).take (h.length - 1)) (itc (at_ h (h.length - 1)) ++ rest) := by
  subst hn
  have hq := m.hq.set 2 (.slice (some ⟨g, 0, none⟩) (h.length - 1) cap)
  have hg := m.hg.set_ne (a := ⟨q, 2, none⟩) (Ne.symm m.hne) (.slice (some ⟨g, 0, none⟩) (h.length - 1) cap)
  have hl := m.hl
  have hr := m.hrest
  rw [cel_cut h i hi, List.append_assoc] at hg hr
  exact ⟨by rw [cut_len]; exact hq, hg, by rw [cut_len]; simp at hl; omega, m.hcap, hr, m.hne⟩
set_option maxRecDepth 100000 in
set_option maxHeartbeats 6400000 in
theorem take_any (q g cap i : Nat) (I : Int) (room turns : Int) (h : List It) (rest : List Value) (w : World) (m : Qm w q g cap room turns h rest) (hi : i < h.length) (hb : h.length ≤ 1000000) (hI : I = (i : Int)) :
    Calls Try.prog 18 #[.pointer (some ⟨q, 0, none⟩), .int .i64 I] w fun e w' => e = .returned (.agg (itc (at_ h i)).toArray) ∧ Qm w' q g cap room turns (takeL h i) (itc (at_ h (h.length - 1)) ++ rest) ∧ Kept [q, g] w w' := by
  subst hI
  have hql := m.hq.lt
  have hgl := m.hg.lt
  have hne := m.hne
  have hk0 : Kept [] w ((w.alloc (.cells #[.int .i64 0, .int .i64 0, .int .i64 0] 55)).alloc (.cells #[.int .i64 (at_ h i).rank, .int .i64 (at_ h i).turn, .int .i64 (at_ h i).v] 55)) := ((Kept.refl _ _).alloc _).alloc _
  have hB4 : Blk ((w.alloc (.cells #[.int .i64 0, .int .i64 0, .int .i64 0] 55)).alloc (.cells #[.int .i64 (at_ h i).rank, .int .i64 (at_ h i).turn, .int .i64 (at_ h i).v] 55)) w.heap.size [.int .i64 0, .int .i64 0, .int .i64 0] 55 := (Blk.new' w _ _).alloc _
  have hB5 : Blk ((w.alloc (.cells #[.int .i64 0, .int .i64 0, .int .i64 0] 55)).alloc (.cells #[.int .i64 (at_ h i).rank, .int .i64 (at_ h i).turn, .int .i64 (at_ h i).v] 55)) (w.heap.size + 1) (itc (at_ h i)) 55 := by
    have h5 := Blk.new (w.alloc (.cells #[.int .i64 0, .int .i64 0, .int .i64 0] 55)) (itc (at_ h i)) 55
    rw [show (w.alloc (.cells #[.int .i64 0, .int .i64 0, .int .i64 0] 55)).heap.size = w.heap.size + 1 by simp] at h5
    exact h5
  have m0 := m.kept hk0
  have c2 : ∀ o, (w.alloc o).cell? ⟨q, 2, none⟩ = some (.slice (some ⟨g, 0, none⟩) h.length cap) := fun o => (m.hq.alloc o).cell (i := 2) rfl
  have c2' : w.cell? ⟨q, 2, none⟩ = some (.slice (some ⟨g, 0, none⟩) h.length cap) := m.hq.cell (i := 2) rfl
  have c2'' : ((w.alloc (.cells #[.int .i64 0, .int .i64 0, .int .i64 0] 55)).alloc (.cells #[.int .i64 (at_ h i).rank, .int .i64 (at_ h i).turn, .int .i64 (at_ h i).v] 55)).cell? ⟨q, 2, none⟩ = some (.slice (some ⟨g, 0, none⟩) h.length cap) := m0.hq.cell (i := 2) rfl
  obtain ⟨a1, a2, a3⟩ := (m.kept ((Kept.refl _ _).alloc (.cells #[.int .i64 0, .int .i64 0, .int .i64 0] 55))).at i hi
  obtain ⟨n, hn⟩ : ∃ n, h.length = n + 1 := ⟨h.length - 1, by omega⟩
  have hn1 : h.length - 1 = n := by omega
  have hni : (i : Int) < (h.length : Int) := by omega
  have hnI : (h.length : Int) - 1 = (n : Int) := by omega
  have hnl : (n : Int) < (h.length : Int) := by omega
  have hn0 : (0 : Int) ≤ (n : Int) := by omega
  have hi0 : (0 : Int) ≤ (i : Int) := by omega
  have hnc : (n : Int) ≤ (cap : Int) := by have := m.hl; omega
  have hlb : (h.length : Int) ≤ 1000000 := by omega
  have HM := Lib.hid m0
  have HK0 := Lib.hid hk0
  have H4 := Lib.hid hB4
  have H5 := Lib.hid hB5
  have HN := Lib.hid hn
  have HN1 := Lib.hid hn1
  have HI := Lib.hid hi
  clear m0 m hk0 hB4 hB5 hn hn1 hi
  go_enter Try.func18, Try.ntmps18
  go_upto_region 3 with fail
  have hgl1 := HM.out.hg.lt
  generalize ((w.alloc (.cells #[.int .i64 0, .int .i64 0, .int .i64 0] 55)).alloc (.cells #[.int .i64 (at_ h i).rank, .int .i64 (at_ h i).turn, .int .i64 (at_ h i).v] 55)) = W1 at *
  clear c2 c2' a1 a2 a3
  obtain ⟨a1, a2, a3⟩ := HM.out.at i HI.out
  obtain ⟨b1, b2, b3⟩ := HM.out.at n (by have := HN.out; omega)
  have f1 := HM.out.hg.free
  go_cut [6] (fun s6 wx => s6 = .int .i64 n ∧ Qm wx q g cap room turns (h.set i (at_ h n)) rest ∧ Blk wx w.heap.size [.int .i64 0, .int .i64 0, .int .i64 0] 55 ∧ Blk wx (w.heap.size + 1) (itc (at_ h i)) 55 ∧ Kept [g] w wx)
  case first =>
    go_region
    go_wp2_with fail
    go_meet
    have m3 := HM.out.put i HI.out (at_ h n)
    exact ⟨rfl, ⟨m3.hq.drew, m3.hg.drew, m3.hl, m3.hcap, m3.hrest, m3.hne⟩, (H4.out.put3_ne (by omega) _ _).drew, (H5.out.put3_ne (by omega) _ _).drew, ((HK0.out.mono (by simp)).put3 (.inl (by simp)) _ _).drew⟩
  case rest =>
    obtain ⟨rfl, m1, hB4, hB5, hk1⟩ := hcut
    clear a1 a2 a3 b1 b2 b3 f1 c2'' hgl1
    have d2 := m1.hq.cell (i := 2) rfl
    rw [List.length_set] at d2
    have d2' : wc.cell? ⟨q, 2, none⟩ = some (.slice (some ⟨g, 0, none⟩) h.length cap) := d2
    have f2 := m1.hq.free
    have m1' := m1
    rw [← HN1.out] at m1'
    have m2 := Qm.cut i HI.out m1' n HN1.out
    have e4 := hB4.set_ne (a := ⟨q, 2, none⟩) (by simp; omega) (.slice (some ⟨g, 0, none⟩) n cap)
    have e5 := hB5.set_ne (a := ⟨q, 2, none⟩) (by simp; omega) (.slice (some ⟨g, 0, none⟩) n cap)
    have hk2 : Kept [q, g] w (wc.setCell ⟨q, 2, none⟩ (.slice (some ⟨g, 0, none⟩) n cap)) := (hk1.mono (by intro x hx; left; simp at hx; simp [hx])).setCell (.inl (by simp)) _
    have hlen1 := cut_len h i
    have HT := Lib.hid (show takeL h i = if i < h.length - 1 then upL (downL ((h.set i (at_ h (h.length - 1))).take (h.length - 1)) i) i else (h.set i (at_ h (h.length - 1))).take (h.length - 1) from rfl)
    generalize (h.set i (at_ h (h.length - 1))).take (h.length - 1) = h1 at *
    have HL1 := Lib.hid hlen1
    have M2 := Lib.hid m2
    have K2 := Lib.hid hk2
    have E4 := Lib.hid e4
    have E5 := Lib.hid e5
    clear d2 m1 m1' m2 hB4 hB5 hk1 e4 e5 hk2 hlen1
    by_cases hlt : i < n
    · have hlt' : (i : Int) < (n : Int) := by omega
      have HT2 := Lib.hid (show takeL h i = upL (downL h1 i) i by rw [HT.out, if_pos (by rw [HN1.out]; exact hlt)])
      have hl1 : i < h1.length := by rw [HL1.out, HN1.out]; exact hlt
      have hb1 : h1.length ≤ 1000000 := by rw [HL1.out]; omega
      have hl2 : i < (downL h1 i).length := by rw [down_len h1.length _ _ (by omega)]; exact hl1
      have hb2 : (downL h1 i).length ≤ 1000000 := by rw [down_len h1.length _ _ (by omega)]; exact hb1
      go_wp2_with fail
      refine (down_any q g cap i room turns h1 _ _ M2.out hl1 hb1).mono ?_
      rintro e w3 ⟨rfl, m3, hk3⟩
      clear d2' f2
      go_wp2_with fail
      refine (up_any q g cap i room turns _ _ _ m3 hl2 hb2).mono ?_
      rintro e w4 ⟨rfl, m4, hk4⟩
      rw [← HT2.out] at m4
      have hk24 : Kept [g] (wc.setCell ⟨q, 2, none⟩ (.slice (some ⟨g, 0, none⟩) n cap)) w4 := hk3.trans1 hk4
      have hk04 : Kept [q, g] w w4 := K2.out.trans hk24 (fun _ h => h) (by intro x hx; left; simp at hx; simp [hx])
      have b4 := hk24.blk E4.out (by simp; omega)
      have b5 := hk24.blk E5.out (by simp; omega)
      clear m3 hk3 hk4 hk24
      have c0 := b5.cell (i := 0) rfl
      have c1 := b5.cell (i := 1) rfl
      have c2 := b5.cell (i := 2) rfl
      go_wp2_with (refine store_blk rfl 55 (.tmp 4) (.tmp 51) rfl w.heap.size rfl 55 _ (itc (at_ h i)) rfl b4 rfl infoIt (itc_one _) ?_)
      intro w5 hb5 hk5
      go_wp2
      exact bodyPost_ret (ret_blk rfl _ w.heap.size _ _ _ rfl hb5 Try.underlying55 rfl infoIt) rfl ⟨rfl, m4.frame hk5 (by simp; omega) (by simp; omega), hk04.trans hk5 (fun _ h => h) (by intro x hx; right; simp at hx; omega)⟩
    · have hlt' : ¬ (i : Int) < (n : Int) := by omega
      have HT2 := Lib.hid (show takeL h i = h1 by rw [HT.out, if_neg (by rw [HN1.out]; exact hlt)])
      have m4 := M2.out
      rw [← HT2.out] at m4
      have M4 := Lib.hid m4
      clear m4
      have c0 := E5.out.cell (i := 0) rfl
      have c1 := E5.out.cell (i := 1) rfl
      have c2 := E5.out.cell (i := 2) rfl
      go_wp2_with (refine store_blk rfl 55 (.tmp 4) (.tmp 51) rfl w.heap.size rfl 55 _ (itc (at_ h i)) rfl E4.out rfl infoIt (itc_one _) ?_)
      intro w5 hb5 hk5
      go_wp2
      exact bodyPost_ret (ret_blk rfl _ w.heap.size _ _ _ rfl hb5 Try.underlying55 rfl infoIt) rfl ⟨rfl, M4.out.frame hk5 (by simp; omega) (by simp; omega), K2.out.trans hk5 (fun _ h => h) (by intro x hx; right; simp at hx; omega)⟩
end Go.Proofs.Ythpdoekeooedfaa
