/- The queue's last and New. Printed by k/gen_qdk.py. -/
import Derived.Test.YtgdofgckjkmhjaaQdM
namespace Go.Proofs.Ytgdofgckjkmhjaa.Qd
open Go Go.RowKit
theorem cel_app (a b : List It) : cel (a ++ b) = cel a ++ cel b := by simp [cel]
/-- The cells when the last item is cut off. -/
theorem cel_cut (h : List It) (i : Nat) (hi : i < h.length) : cel (h.set i (at_ h (h.length - 1))) = cel ((h.set i (at_ h (h.length - 1))).take (h.length - 1)) ++ itc (at_ h (h.length - 1)) := by
  have hl : (h.set i (at_ h (h.length - 1))).length = h.length := by simp
  have hs : h.set i (at_ h (h.length - 1)) = (h.set i (at_ h (h.length - 1))).take (h.length - 1) ++ [at_ h (h.length - 1)] := by
    have h1 := List.take_append_drop (h.length - 1) (h.set i (at_ h (h.length - 1)))
    rw [List.drop_eq_getElem_cons (by omega), List.drop_of_length_le (by omega)] at h1
    have h2 : (h.set i (at_ h (h.length - 1)))[h.length - 1]'(by omega) = at_ h (h.length - 1) := by
      rw [← at_get _ _ (by omega), at_set _ _ _ _ hi]
      split
      · rfl
      · rfl
    rw [h2] at h1
    exact h1.symm
  conv => lhs; rw [hs, cel_app]
  simp [cel]
/-- The last item is cut off. -/
theorem Qm.cut {w : World} {q g cap : Nat} {room turns : Int} {h : List It} {rest : List Value} (i : Nat) (hi : i < h.length) (m : Qm w q g cap room turns (h.set i (at_ h (h.length - 1))) rest) (n : Nat) (hn : h.length - 1 = n) :
    Qm (w.setCell ⟨q, 2, none⟩ (.slice (some ⟨g, 0, none⟩) n cap)) q g cap room turns ((h.set i (at_ h (h.length - 1))).take (h.length - 1)) (itc (at_ h (h.length - 1)) ++ rest) := by
  subst hn
  have hq := m.hq.set 2 (.slice (some ⟨g, 0, none⟩) (h.length - 1) cap)
  have hg := m.hg.set_ne (a := ⟨q, 2, none⟩) (Ne.symm m.hne) (.slice (some ⟨g, 0, none⟩) (h.length - 1) cap)
  have hl := m.hl
  have hr := m.hrest
  rw [cel_cut h i hi, List.append_assoc] at hg hr
  exact ⟨by rw [cut_len]; exact hq, hg, by rw [cut_len]; simp at hl; omega, m.hcap, hr, m.hne⟩
set_option linter.unusedSimpArgs false in
set_option maxRecDepth 100000 in
set_option maxHeartbeats 6400000 in
theorem last_any (q g cap : Nat) (room turns : Int) (h : List It) (rest : List Value) (w : World) (m : Qm w q g cap room turns h rest) (h0 : 0 < h.length) (hb : h.length ≤ 1000000) :
    Calls Try.prog 30 #[.pointer (some ⟨q, 0, none⟩)] w fun e w' => e = .returned (.int .i64 (lastK h h.length)) ∧ Kept [] w w' := by
  have hc2 : w.cell? ⟨q, 2, none⟩ = some (.slice (some ⟨g, 0, none⟩) h.length cap) := m.hq.cell (i := 2) rfl
  go_enter Try.func30, Try.ntmps30
  go_wp2
  go_loopw [3, 10] (fun kv nv wr => ∃ n : Nat, n ≤ h.length ∧ nv = .int .i64 n ∧ kv = .int .i64 (lastK h n) ∧ Kept [] w wr) (fun _ nv _ => h.length - (intOf nv).toNat)
  case atStart => exact ⟨0, by omega, rfl, rfl, Kept.refl _ _⟩
  case round =>
    obtain ⟨n, hn, rfl, rfl, hk⟩ := hrel
    clear hc2
    by_cases hlt : n < h.length
    · have m' := m.kept hk
      obtain ⟨k, hkk⟩ : ∃ k, k = lastK h n := ⟨_, rfl⟩
      have hkl : k < h.length := by have := lastK_lt h n; rw [hkk]; omega
      have HS0 := hx (show lastK h (n + 1) = if ahB (at_ h k) (at_ h n) = true then n else k by rw [hkk]; rfl)
      rw [← hkk]
      clear hkk
      have HSK := hx (fun (w3 : World) (hk3 : Kept [] wr w3) => show (fun w3 => w3.cell? ⟨q, 2, none⟩ = some (.slice (some ⟨g, 0, none⟩) h.length cap) ∧ w3.rangeAt g ((k) * 13) (itc (at_ h (k))) ∧ w3.rangeAt g ((n) * 13) (itc (at_ h (n)))) w3 from ⟨(m'.kept hk3).hq.cell (i := 2) rfl, (m'.kept hk3).at k hkl, (m'.kept hk3).at n hlt⟩)
      have HAH := hx (fun W => ahead_any (at_ h k) (at_ h n) W)
      have i1 : (k : Int) < (h.length : Int) := by omega
      have i2 : (n : Int) < (h.length : Int) := by omega
      have i3 : (0 : Int) ≤ (k : Int) := by omega
      have i4 : (0 : Int) ≤ (n : Int) := by omega
      have i5 : decide (n < h.length) = true := by simp; omega
      go_upto_region 5 with fail
      go_cut [27] (fun s27 wx => s27 = .bool (ahB (at_ h k) (at_ h n)) ∧ Kept [] wr wx)
      case first =>
        refine wp_region_held_drew (S := (fun w3 => w3.cell? ⟨q, 2, none⟩ = some (.slice (some ⟨g, 0, none⟩) h.length cap) ∧ w3.rangeAt g ((k) * 13) (itc (at_ h (k))) ∧ w3.rangeAt g ((n) * 13) (itc (at_ h (n))))) (by kernel_rfl) (HSK.out _ (Kept.drew (Kept.refl [] wr))) (fun hHeld => ?_)
        refine take_by 0 13 (v := ?_) rfl rfl (by kernel_rfl) (by kernel_rfl) (by kernel_rfl) (fun _ _ _ h => h) (Or.inl ⟨by rfl, ?_⟩) (by assumption) ?_
        rotate_left
        · (intro w hSw; (try dsimp only at hSw); go_simp; try with_reducible rfl)
        try simp only [List.setIfInBounds_toArray, List.set_cons_zero, List.set_cons_succ]
        refine take_by 1 14 (v := ?_) rfl rfl (by kernel_rfl) (by kernel_rfl) (by kernel_rfl) (fun _ _ _ h => h) (Or.inl ⟨by rfl, ?_⟩) (by assumption) ?_
        rotate_left
        · (intro w hSw; (try dsimp only at hSw); go_simp; try with_reducible rfl)
        try simp only [List.setIfInBounds_toArray, List.set_cons_zero, List.set_cons_succ]
        refine take_by 2 15 (v := ?_) rfl rfl (by kernel_rfl) (by kernel_rfl) (by kernel_rfl) (fun _ _ _ h => h) (Or.inl ⟨by rfl, ?_⟩) (by assumption) ?_
        rotate_left
        · (intro w hSw; (try dsimp only at hSw); go_simp; try with_reducible rfl)
        try simp only [List.setIfInBounds_toArray, List.set_cons_zero, List.set_cons_succ]
        refine take_by 3 16 (v := ?_) rfl rfl (by kernel_rfl) (by kernel_rfl) (by kernel_rfl) (fun _ _ _ h => h) (Or.inl ⟨by rfl, ?_⟩) (by assumption) ?_
        rotate_left
        · (intro w hSw; (try dsimp only at hSw); go_simp; try with_reducible rfl)
        try simp only [List.setIfInBounds_toArray, List.set_cons_zero, List.set_cons_succ]
        refine take_by 4 17 (v := ?_) rfl rfl (by kernel_rfl) (by kernel_rfl) (by kernel_rfl) (fun _ _ _ h => h) (Or.inl ⟨by rfl, ?_⟩) (by assumption) ?_
        rotate_left
        · (intro w hSw; (try dsimp only at hSw); go_simp; try with_reducible rfl)
        try simp only [List.setIfInBounds_toArray, List.set_cons_zero, List.set_cons_succ]
        refine take_by 5 18 (v := ?_) rfl rfl (by kernel_rfl) (by kernel_rfl) (by kernel_rfl) (fun _ _ _ h => h) (Or.inl ⟨by rfl, ?_⟩) (by assumption) ?_
        rotate_left
        · (intro w hSw; (try dsimp only at hSw); go_simp; try with_reducible rfl)
        try simp only [List.setIfInBounds_toArray, List.set_cons_zero, List.set_cons_succ]
        refine take_by 6 19 (v := .agg (itc (at_ h (k))).toArray) rfl rfl (by kernel_rfl) (by kernel_rfl) (by kernel_rfl) (fun _ _ _ h => h) (yieldsIf_load_mid (by rfl) 81 (.tmp 18) rfl g ((k) * 13) rfl (itc (at_ h (k))) _ (fun _ hS => hS.2.1) Try.underlying81 rfl (by kernel_rfl)) (by assumption) ?_
        try simp only [List.setIfInBounds_toArray, List.set_cons_zero, List.set_cons_succ]
        refine take_by 7 20 (v := ?_) rfl rfl (by kernel_rfl) (by kernel_rfl) (by kernel_rfl) (fun _ _ _ h => h) (Or.inl ⟨by rfl, ?_⟩) (by assumption) ?_
        rotate_left
        · (intro w hSw; (try dsimp only at hSw); go_simp; try with_reducible rfl)
        try simp only [List.setIfInBounds_toArray, List.set_cons_zero, List.set_cons_succ]
        refine take_by 8 21 (v := ?_) rfl rfl (by kernel_rfl) (by kernel_rfl) (by kernel_rfl) (fun _ _ _ h => h) (Or.inl ⟨by rfl, ?_⟩) (by assumption) ?_
        rotate_left
        · (intro w hSw; (try dsimp only at hSw); go_simp; try with_reducible rfl)
        try simp only [List.setIfInBounds_toArray, List.set_cons_zero, List.set_cons_succ]
        refine take_by 9 22 (v := ?_) rfl rfl (by kernel_rfl) (by kernel_rfl) (by kernel_rfl) (fun _ _ _ h => h) (Or.inl ⟨by rfl, ?_⟩) (by assumption) ?_
        rotate_left
        · (intro w hSw; (try dsimp only at hSw); go_simp; try with_reducible rfl)
        try simp only [List.setIfInBounds_toArray, List.set_cons_zero, List.set_cons_succ]
        refine take_by 10 23 (v := ?_) rfl rfl (by kernel_rfl) (by kernel_rfl) (by kernel_rfl) (fun _ _ _ h => h) (Or.inl ⟨by rfl, ?_⟩) (by assumption) ?_
        rotate_left
        · (intro w hSw; (try dsimp only at hSw); go_simp; try with_reducible rfl)
        try simp only [List.setIfInBounds_toArray, List.set_cons_zero, List.set_cons_succ]
        refine take_by 11 24 (v := ?_) rfl rfl (by kernel_rfl) (by kernel_rfl) (by kernel_rfl) (fun _ _ _ h => h) (Or.inl ⟨by rfl, ?_⟩) (by assumption) ?_
        rotate_left
        · (intro w hSw; (try dsimp only at hSw); go_simp; try with_reducible rfl)
        try simp only [List.setIfInBounds_toArray, List.set_cons_zero, List.set_cons_succ]
        refine take_by 12 25 (v := ?_) rfl rfl (by kernel_rfl) (by kernel_rfl) (by kernel_rfl) (fun _ _ _ h => h) (Or.inl ⟨by rfl, ?_⟩) (by assumption) ?_
        rotate_left
        · (intro w hSw; (try dsimp only at hSw); go_simp; try with_reducible rfl)
        try simp only [List.setIfInBounds_toArray, List.set_cons_zero, List.set_cons_succ]
        refine take_by 13 26 (v := .agg (itc (at_ h (n))).toArray) rfl rfl (by kernel_rfl) (by kernel_rfl) (by kernel_rfl) (fun _ _ _ h => h) (yieldsIf_load_mid (by rfl) 81 (.tmp 25) rfl g ((n) * 13) rfl (itc (at_ h (n))) _ (fun _ hS => hS.2.2) Try.underlying81 rfl (by kernel_rfl)) (by assumption) ?_
        try simp only [List.setIfInBounds_toArray, List.set_cons_zero, List.set_cons_succ]
        refine wpAnyH_ready (rs := [14]) (by kernel_rfl) (by simp) ?_
        refine AllReadyH.cons rfl (fun K hK => ?_) AllReadyH.nil
        go_simp
        (go_at_call 41; refine (HAH.out _).mono ?_; rintro e w4 ⟨rfl, hk4⟩; have K4 := hx (show Kept [] wr w4 from (Kept.drew (Kept.refl [] wr)).trans0 hk4); clear hk4)
        refine hK.out _ _ (HSK.out _ K4.out) (fun hHeld => ?_)
        clear hK K
        try simp only [Act.put, List.setIfInBounds_toArray, List.set_cons_zero, List.set_cons_succ]
        refine wpAnyH_done (by kernel_rfl) ?_ _
        go_wp2_with fail
        go_meet
        exact ⟨rfl, K4.out⟩
      case rest =>
        obtain ⟨rfl, hkx⟩ := hcut
        have hk2 := hk.trans0 hkx
        clear HSK HAH m' hk hkx
        cases hc : ahB (at_ h k) (at_ h n)
        · have HE := hx (show (lastK h (n + 1) : Int) = (k : Int) by rw [HS0.out, if_neg (by simp [hc])])
          clear hc
          go_wp2
          go_roundw
          case rel => exact ⟨n + 1, by omega, by go_num, congrArg (Value.int .i64) HE.out.symm, hk2⟩
          case measure => simp [intOf] <;> omega
        · have HE := hx (show (lastK h (n + 1) : Int) = (n : Int) by rw [HS0.out, if_pos hc])
          clear hc
          go_wp2
          go_roundw
          case rel => exact ⟨n + 1, by omega, by go_num, congrArg (Value.int .i64) HE.out.symm, hk2⟩
          case measure => simp [intOf] <;> omega
    · obtain rfl : n = h.length := by omega
      go_wp2
      go_ret
      exact ⟨rfl, hk⟩
set_option maxRecDepth 100000 in
set_option maxHeartbeats 800000 in
theorem new_any (room : Int) (w : World) (h1 : 1 ≤ room) (h2 : room ≤ 256) :
    Calls Try.prog 15 #[.int .i64 room] w fun e w' => e = .returned (.tuple #[.pointer (some ⟨w.heap.size, 0, none⟩), .int .i64 0]) ∧ Blk w' w.heap.size [.int .i64 room, .int .i64 0, .slice none 0 0] 79 ∧ Kept [] w w' := by
  have g1 : decide (room < 1) = false := by simp; omega
  have g2 : decide (256 < room) = false := by simp; omega
  go_enter Try.func15, Try.ntmps15
  go_wp2
  go_ret2
  exact ⟨rfl, Blk.new' _ _ _, (Kept.refl _ _).alloc _⟩
end Go.Proofs.Ytgdofgckjkmhjaa.Qd
