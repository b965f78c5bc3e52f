/- The queue's down. Printed by k/gen_qdd.py. The queue's last and New. Printed by k/gen_qdk.py. The queue's take. Printed by k/gen_qdk.py. The queue's Len and Push. Printed by k/gen_qda.py. -/
import Derived.Test.YtgdofgckjkmhjaaGreatPk06
import Derived.Test.YtgdofgckjkmhjaaGreatQdU
import Derived.Test.YtgdofgckjkmhjaaGreatPk04
import Derived.Maps.AppendAt
import Derived.Great.BuildSlice
set_option linter.unusedSimpArgs false
set_option linter.unusedVariables false
namespace Go.Proofs.YtgdofgckjkmhjaaGreat.Qd
open Go Go.RowKit
set_option linter.unusedSimpArgs false in
set_option maxRecDepth 100000 in
set_option maxHeartbeats 12800000 in
theorem down_any (q g cap i0 : Nat) (room turns : Int) (h0 : List It) (rest : List Value) (w : World) (m0 : Qm w q g cap room turns h0 rest) (hi0 : i0 < h0.length) (hb : h0.length ≤ 1000000) :
    Calls Tryz.prog 75 #[.pointer (some ⟨q, 0, none⟩), .int .i64 i0] w fun e w' => e = .returned (.tuple #[]) ∧ Qm w' q g cap room turns (downL h0 i0) rest ∧ Kept [g] w w' := by
  go_enter Tryz.func75, Tryz.ntmps75
  go_wp2
  go_loopw [1] (fun iv wr => ∃ (i : Nat) (h : List It), iv = .int .i64 i ∧ i < h.length ∧ h.length = h0.length ∧ downL h i = downL h0 i0 ∧ Qm wr q g cap room turns h rest ∧ Kept [g] w wr) (fun iv _ => h0.length - (intOf iv).toNat)
  case atStart => exact ⟨i0, h0, rfl, hi0, rfl, rfl, m0, Kept.refl _ _⟩
  case round =>
    obtain ⟨i, h, rfl, hi, hlen, hup, m, hk⟩ := hrel
    have hib : (i : Int) < 1000000 := by omega
    have hlb : (h.length : Int) ≤ 1000000 := by omega
    have hib0 : (0 : Int) ≤ (i : Int) := by omega
    have HL := hx hlen
    have HU := hx hup
    clear hlen hup m0
    have hc2 : wr.cell? ⟨q, 2, none⟩ = some (.slice (some ⟨g, 0, none⟩) h.length cap) := m.hq.cell (i := 2) rfl
    by_cases hend : 2 * i + 1 < h.length
    · obtain ⟨k, hk0⟩ : ∃ k, k = 2 * i + 1 := ⟨_, rfl⟩
      have hkI : 2 * (i : Int) + 1 = (k : Int) := by omega
      have t1 : ¬ (h.length : Int) ≤ (k : Int) := by omega
      have hkl : k < h.length := by omega
      have hki := hx (show kid h i = if k + 1 < h.length ∧ ahB (at_ h (k + 1)) (at_ h k) = true then k + 1 else k by rw [hk0]; rfl)
      have hK := hx hk0
      have hkb : (k : Int) ≤ 1000000 := by omega
      have hkn : (0 : Int) ≤ (k : Int) := by omega
      have hkl2 : (k : Int) < (h.length : Int) := by omega
      clear hk0
      go_upto_region 2 with fail
      clear hkI
      go_cut [40] (fun s40 wx => s40 = .bool (decide (k + 1 < h.length) && ahB (at_ h (k + 1)) (at_ h k)) ∧ Kept [] wr wx)
      case first =>
        by_cases h2 : k + 1 < h.length
        · have D2 := hx (show decide (k + 1 < h.length) = true by simp [h2])
          have HSK := hx (fun (w3 : World) (hk3 : Kept [] wr w3) => show (fun w3 => w3.cell? ⟨q, 2, none⟩ = some (.slice (some ⟨g, 0, none⟩) h.length cap) ∧ w3.rangeAt g ((k + 1) * 13) (itc (at_ h (k + 1))) ∧ w3.rangeAt g ((k) * 13) (itc (at_ h (k)))) w3 from ⟨(m.kept hk3).hq.cell (i := 2) rfl, (m.kept hk3).at (k + 1) h2, (m.kept hk3).at k hkl⟩)
          have HAH := hx (fun W => ahead_any (at_ h (k + 1)) (at_ h k) W)
          have j1 : (k : Int) + 1 < (h.length : Int) := by omega
          have j2 : decide ((k : Int) + 1 < (h.length : Int)) = true := by simp; omega
          have j3 := D2.out
          have jw : IntKind.i64.wrap ((k : Int) + 1) = (k : Int) + 1 := by rw [IntKind.wrap_i64]; omega
          have jn : (0 : Int) ≤ (k : Int) + 1 := by omega
          have jt : ((k : Int) + 1).toNat = k + 1 := by omega
          refine wp_region_held_drew (S := (fun w3 => w3.cell? ⟨q, 2, none⟩ = some (.slice (some ⟨g, 0, none⟩) h.length cap) ∧ w3.rangeAt g ((k + 1) * 13) (itc (at_ h (k + 1))) ∧ w3.rangeAt g ((k) * 13) (itc (at_ h (k))))) (by kernel_rfl) (HSK.out _ (Kept.drew (Kept.refl [] wr))) (fun hHeld => ?_)
          refine take_by 0 15 (v := ?_) rfl rfl (by kernel_rfl) (by kernel_rfl) (by kernel_rfl) (fun _ _ _ h => h) (Or.inl ⟨by rfl, ?_⟩) (by assumption) ?_
          rotate_left
          · (intro w hSw; (try dsimp only at hSw); go_simp; try with_reducible rfl)
          try simp only [List.setIfInBounds_toArray, List.set_cons_zero, List.set_cons_succ]
          refine take_by 1 16 (v := ?_) rfl rfl (by kernel_rfl) (by kernel_rfl) (by kernel_rfl) (fun _ _ _ h => h) (Or.inl ⟨by rfl, ?_⟩) (by assumption) ?_
          rotate_left
          · (intro w hSw; (try dsimp only at hSw); go_simp; try with_reducible rfl)
          try simp only [List.setIfInBounds_toArray, List.set_cons_zero, List.set_cons_succ]
          refine take_by 2 17 (v := ?_) rfl rfl (by kernel_rfl) (by kernel_rfl) (by kernel_rfl) (fun _ _ _ h => h) (Or.inl ⟨by rfl, ?_⟩) (by assumption) ?_
          rotate_left
          · (intro w hSw; (try dsimp only at hSw); go_simp; try with_reducible rfl)
          try simp only [List.setIfInBounds_toArray, List.set_cons_zero, List.set_cons_succ]
          refine take_by 3 18 (v := ?_) rfl rfl (by kernel_rfl) (by kernel_rfl) (by kernel_rfl) (fun _ _ _ h => h) (Or.inl ⟨by rfl, ?_⟩) (by assumption) ?_
          rotate_left
          · (intro w hSw; (try dsimp only at hSw); go_simp; try with_reducible rfl)
          try simp only [List.setIfInBounds_toArray, List.set_cons_zero, List.set_cons_succ]
          refine take_by 4 19 (v := ?_) rfl rfl (by kernel_rfl) (by kernel_rfl) (by kernel_rfl) (fun _ _ _ h => h) (Or.inl ⟨by rfl, ?_⟩) (by assumption) ?_
          rotate_left
          · (intro w hSw; (try dsimp only at hSw); go_simp; try with_reducible rfl)
          try simp only [List.setIfInBounds_toArray, List.set_cons_zero, List.set_cons_succ]
          refine take_by 5 20 (v := ?_) rfl rfl (by kernel_rfl) (by kernel_rfl) (by kernel_rfl) (fun _ _ _ h => h) (Or.inl ⟨by rfl, ?_⟩) (by assumption) ?_
          rotate_left
          · (intro w hSw; (try dsimp only at hSw); go_simp; try with_reducible rfl)
          try simp only [List.setIfInBounds_toArray, List.set_cons_zero, List.set_cons_succ]
          refine take_by 6 21 (v := ?_) rfl rfl (by kernel_rfl) (by kernel_rfl) (by kernel_rfl) (fun _ _ _ h => h) (Or.inl ⟨by rfl, ?_⟩) (by assumption) ?_
          rotate_left
          · (intro w hSw; (try dsimp only at hSw); go_simp; try with_reducible rfl)
          try simp only [List.setIfInBounds_toArray, List.set_cons_zero, List.set_cons_succ]
          refine take_by 7 22 (v := ?_) rfl rfl (by kernel_rfl) (by kernel_rfl) (by kernel_rfl) (fun _ _ _ h => h) (Or.inl ⟨by rfl, ?_⟩) (by assumption) ?_
          rotate_left
          · (intro w hSw; (try dsimp only at hSw); go_simp; try with_reducible rfl)
          try simp only [List.setIfInBounds_toArray, List.set_cons_zero, List.set_cons_succ]
          refine take_by 8 23 (v := ?_) rfl rfl (by kernel_rfl) (by kernel_rfl) (by kernel_rfl) (fun _ _ _ h => h) (Or.inl ⟨by rfl, ?_⟩) (by assumption) ?_
          rotate_left
          · (intro w hSw; (try dsimp only at hSw); go_simp; try with_reducible rfl)
          try simp only [List.setIfInBounds_toArray, List.set_cons_zero, List.set_cons_succ]
          refine take_by 9 24 (v := ?_) rfl rfl (by kernel_rfl) (by kernel_rfl) (by kernel_rfl) (fun _ _ _ h => h) (Or.inl ⟨by rfl, ?_⟩) (by assumption) ?_
          rotate_left
          · (intro w hSw; (try dsimp only at hSw); go_simp; try with_reducible rfl)
          try simp only [List.setIfInBounds_toArray, List.set_cons_zero, List.set_cons_succ]
          refine take_by 10 25 (v := ?_) rfl rfl (by kernel_rfl) (by kernel_rfl) (by kernel_rfl) (fun _ _ _ h => h) (Or.inl ⟨by rfl, ?_⟩) (by assumption) ?_
          rotate_left
          · (intro w hSw; (try dsimp only at hSw); go_simp; try with_reducible rfl)
          try simp only [List.setIfInBounds_toArray, List.set_cons_zero, List.set_cons_succ]
          refine take_by 11 26 (v := ?_) rfl rfl (by kernel_rfl) (by kernel_rfl) (by kernel_rfl) (fun _ _ _ h => h) (Or.inl ⟨by rfl, ?_⟩) (by assumption) ?_
          rotate_left
          · (intro w hSw; (try dsimp only at hSw); go_simp; try with_reducible rfl)
          try simp only [List.setIfInBounds_toArray, List.set_cons_zero, List.set_cons_succ]
          refine take_by 12 27 (v := ?_) rfl rfl (by kernel_rfl) (by kernel_rfl) (by kernel_rfl) (fun _ _ _ h => h) (Or.inl ⟨by rfl, ?_⟩) (by assumption) ?_
          rotate_left
          · (intro w hSw; (try dsimp only at hSw); go_simp; try with_reducible rfl)
          try simp only [List.setIfInBounds_toArray, List.set_cons_zero, List.set_cons_succ]
          refine take_by 13 28 (v := ?_) rfl rfl (by kernel_rfl) (by kernel_rfl) (by kernel_rfl) (fun _ _ _ h => h) (Or.inl ⟨by rfl, ?_⟩) (by assumption) ?_
          rotate_left
          · (intro w hSw; (try dsimp only at hSw); go_simp; try with_reducible rfl)
          try simp only [List.setIfInBounds_toArray, List.set_cons_zero, List.set_cons_succ]
          refine take_by 14 29 (v := ?_) rfl rfl (by kernel_rfl) (by kernel_rfl) (by kernel_rfl) (fun _ _ _ h => h) (Or.inl ⟨by rfl, ?_⟩) (by assumption) ?_
          rotate_left
          · (intro w hSw; (try dsimp only at hSw); go_simp; try with_reducible rfl)
          try simp only [List.setIfInBounds_toArray, List.set_cons_zero, List.set_cons_succ]
          refine take_by 15 30 (v := ?_) rfl rfl (by kernel_rfl) (by kernel_rfl) (by kernel_rfl) (fun _ _ _ h => h) (Or.inl ⟨by rfl, ?_⟩) (by assumption) ?_
          rotate_left
          · (intro w hSw; (try dsimp only at hSw); go_simp; try with_reducible rfl)
          try simp only [List.setIfInBounds_toArray, List.set_cons_zero, List.set_cons_succ]
          refine take_by 16 31 (v := .agg (itc (at_ h (k + 1))).toArray) rfl rfl (by kernel_rfl) (by kernel_rfl) (by kernel_rfl) (fun _ _ _ h => h) (yieldsIf_load_mid (by rfl) 110 (.tmp 30) rfl g ((k + 1) * 13) rfl (itc (at_ h (k + 1))) _ (fun _ hS => hS.2.1) Tryz.underlying110 rfl (by kernel_rfl)) (by assumption) ?_
          try simp only [List.setIfInBounds_toArray, List.set_cons_zero, List.set_cons_succ]
          refine take_by 17 32 (v := ?_) rfl rfl (by kernel_rfl) (by kernel_rfl) (by kernel_rfl) (fun _ _ _ h => h) (Or.inl ⟨by rfl, ?_⟩) (by assumption) ?_
          rotate_left
          · (intro w hSw; (try dsimp only at hSw); go_simp; try with_reducible rfl)
          try simp only [List.setIfInBounds_toArray, List.set_cons_zero, List.set_cons_succ]
          refine take_by 18 33 (v := ?_) rfl rfl (by kernel_rfl) (by kernel_rfl) (by kernel_rfl) (fun _ _ _ h => h) (Or.inl ⟨by rfl, ?_⟩) (by assumption) ?_
          rotate_left
          · (intro w hSw; (try dsimp only at hSw); go_simp; try with_reducible rfl)
          try simp only [List.setIfInBounds_toArray, List.set_cons_zero, List.set_cons_succ]
          refine take_by 19 34 (v := ?_) rfl rfl (by kernel_rfl) (by kernel_rfl) (by kernel_rfl) (fun _ _ _ h => h) (Or.inl ⟨by rfl, ?_⟩) (by assumption) ?_
          rotate_left
          · (intro w hSw; (try dsimp only at hSw); go_simp; try with_reducible rfl)
          try simp only [List.setIfInBounds_toArray, List.set_cons_zero, List.set_cons_succ]
          refine take_by 20 35 (v := ?_) rfl rfl (by kernel_rfl) (by kernel_rfl) (by kernel_rfl) (fun _ _ _ h => h) (Or.inl ⟨by rfl, ?_⟩) (by assumption) ?_
          rotate_left
          · (intro w hSw; (try dsimp only at hSw); go_simp; try with_reducible rfl)
          try simp only [List.setIfInBounds_toArray, List.set_cons_zero, List.set_cons_succ]
          refine take_by 21 36 (v := ?_) rfl rfl (by kernel_rfl) (by kernel_rfl) (by kernel_rfl) (fun _ _ _ h => h) (Or.inl ⟨by rfl, ?_⟩) (by assumption) ?_
          rotate_left
          · (intro w hSw; (try dsimp only at hSw); go_simp; try with_reducible rfl)
          try simp only [List.setIfInBounds_toArray, List.set_cons_zero, List.set_cons_succ]
          refine take_by 22 37 (v := ?_) rfl rfl (by kernel_rfl) (by kernel_rfl) (by kernel_rfl) (fun _ _ _ h => h) (Or.inl ⟨by rfl, ?_⟩) (by assumption) ?_
          rotate_left
          · (intro w hSw; (try dsimp only at hSw); go_simp; try with_reducible rfl)
          try simp only [List.setIfInBounds_toArray, List.set_cons_zero, List.set_cons_succ]
          refine take_by 23 38 (v := .agg (itc (at_ h (k))).toArray) rfl rfl (by kernel_rfl) (by kernel_rfl) (by kernel_rfl) (fun _ _ _ h => h) (yieldsIf_load_mid (by rfl) 110 (.tmp 37) rfl g ((k) * 13) rfl (itc (at_ h (k))) _ (fun _ hS => hS.2.2) Tryz.underlying110 rfl (by kernel_rfl)) (by assumption) ?_
          try simp only [List.setIfInBounds_toArray, List.set_cons_zero, List.set_cons_succ]
          refine wpAnyH_ready (rs := [24]) (by kernel_rfl) (by simp) ?_
          refine AllReadyH.cons rfl (fun K hK => ?_) AllReadyH.nil
          go_simp
          (go_at_call 74; refine (HAH.out _).mono ?_; rintro e w4 ⟨rfl, hk4⟩; have K4 := hx (show Kept [] wr w4 from (Kept.drew (Kept.refl [] wr)).trans0 hk4); clear hk4)
          refine hK.out _ _ (HSK.out _ K4.out) (fun hHeld => ?_)
          clear hK K
          try simp only [Act.put, List.setIfInBounds_toArray, List.set_cons_zero, List.set_cons_succ]
          refine take_by 25 40 (v := ?_) rfl rfl (by kernel_rfl) (by kernel_rfl) (by kernel_rfl) (fun _ _ _ h => h) (Or.inl ⟨by rfl, ?_⟩) (by assumption) ?_
          rotate_left
          · (intro w hSw; (try dsimp only at hSw); go_simp; try with_reducible rfl)
          try simp only [List.setIfInBounds_toArray, List.set_cons_zero, List.set_cons_succ]
          refine wpAnyH_done (by kernel_rfl) ?_ _
          go_wp2_with fail
          go_meet
          exact ⟨Eq.trans rfl (congrArg Value.bool (show ahB (at_ h (k + 1)) (at_ h k) = (decide (k + 1 < h.length) && ahB (at_ h (k + 1)) (at_ h k)) by rw [D2.out, Bool.true_and])), K4.out⟩
        · have D2 := hx (show decide (k + 1 < h.length) = false by simp [h2])
          have d3 : decide ((k : Int) + 1 < (h.length : Int)) = false := by simp; omega
          have d4 := D2.out
          have jw : IntKind.i64.wrap ((k : Int) + 1) = (k : Int) + 1 := by rw [IntKind.wrap_i64]; omega
          go_quiet (fail)
          all_goals (go_wp2_with fail)
          all_goals (go_meet; exact ⟨Eq.trans rfl (congrArg Value.bool (show false = (decide (k + 1 < h.length) && ahB (at_ h (k + 1)) (at_ h k)) by rw [D2.out, Bool.false_and])), (Kept.refl _ _).drewN _⟩)
      case rest =>
        obtain ⟨rfl, hkx⟩ := hcut
        have m' := m.kept hkx
        have hk' := hk.trans0 hkx
        clear m hk hkx hc2
        obtain ⟨j, hj⟩ : ∃ j, j = kid h i := ⟨_, rfl⟩
        have hjl : j < h.length := by rw [hj]; exact kid_lt h i hend
        have hji : i < j := by rw [hj]; exact kid_gt h i
        have hJ := hx hj
        clear hj
        go_upto_if 40 with fail
        go_cut [4] (fun s4 wx => s4 = .int .i64 j ∧ wx = wc)
        case first =>
          by_cases hb2 : k + 1 < h.length ∧ ahB (at_ h (k + 1)) (at_ h k) = true
          · have e0 : (decide (k + 1 < h.length) && ahB (at_ h (k + 1)) (at_ h k)) = true := by simp [hb2.1, hb2.2]
            have e1 := hx (show ((k : Int) + 1) = (j : Int) by rw [hJ.out, hki.out, if_pos hb2]; omega)
            rw [e0]
            clear hb2 e0
            go_wp2_with fail
            go_meet
            exact ⟨Eq.trans rfl (congrArg (Value.int .i64) e1.out), rfl⟩
          · have e0 : (decide (k + 1 < h.length) && ahB (at_ h (k + 1)) (at_ h k)) = false := by
              cases hbb : (decide (k + 1 < h.length) && ahB (at_ h (k + 1)) (at_ h k))
              · rfl
              · simp at hbb; exact absurd hbb hb2
            have e1 := hx (show (k : Int) = (j : Int) by rw [hJ.out, hki.out, if_neg hb2])
            rw [e0]
            clear hb2 e0
            go_wp2_with fail
            go_meet
            exact ⟨Eq.trans rfl (congrArg (Value.int .i64) e1.out), rfl⟩
        case rest =>
          obtain ⟨rfl, rfl⟩ := hcut
          have hjn : (j : Int) < (h.length : Int) := by omega
          have hin : (i : Int) < (h.length : Int) := by omega
          have hj0 : (0 : Int) ≤ (j : Int) := by omega
          have HSK := hx (fun (w3 : World) (hk3 : Kept [] wc w3) => show (fun w3 => w3.cell? ⟨q, 2, none⟩ = some (.slice (some ⟨g, 0, none⟩) h.length cap) ∧ w3.rangeAt g ((j) * 13) (itc (at_ h (j))) ∧ w3.rangeAt g ((i) * 13) (itc (at_ h (i)))) w3 from ⟨(m'.kept hk3).hq.cell (i := 2) rfl, (m'.kept hk3).at j hjl, (m'.kept hk3).at i hi⟩)
          have HAH := hx (fun W => ahead_any (at_ h j) (at_ h i) W)
          clear hkb hkn hkl2 t1
          go_upto_region 4 with fail
          go_cut [58] (fun s58 wx => s58 = .bool (!ahB (at_ h j) (at_ h i)) ∧ Kept [] wc wx)
          case first =>
            refine wp_region_held_drew (S := (fun w3 => w3.cell? ⟨q, 2, none⟩ = some (.slice (some ⟨g, 0, none⟩) h.length cap) ∧ w3.rangeAt g ((j) * 13) (itc (at_ h (j))) ∧ w3.rangeAt g ((i) * 13) (itc (at_ h (i))))) (by kernel_rfl) (HSK.out _ (Kept.drew (Kept.refl [] wc))) (fun hHeld => ?_)
            refine take_by 0 43 (v := ?_) rfl rfl (by kernel_rfl) (by kernel_rfl) (by kernel_rfl) (fun _ _ _ h => h) (Or.inl ⟨by rfl, ?_⟩) (by assumption) ?_
            rotate_left
            · (intro w hSw; (try dsimp only at hSw); go_simp; try with_reducible rfl)
            try simp only [List.setIfInBounds_toArray, List.set_cons_zero, List.set_cons_succ]
            refine take_by 1 44 (v := ?_) rfl rfl (by kernel_rfl) (by kernel_rfl) (by kernel_rfl) (fun _ _ _ h => h) (Or.inl ⟨by rfl, ?_⟩) (by assumption) ?_
            rotate_left
            · (intro w hSw; (try dsimp only at hSw); go_simp; try with_reducible rfl)
            try simp only [List.setIfInBounds_toArray, List.set_cons_zero, List.set_cons_succ]
            refine take_by 2 45 (v := ?_) rfl rfl (by kernel_rfl) (by kernel_rfl) (by kernel_rfl) (fun _ _ _ h => h) (Or.inl ⟨by rfl, ?_⟩) (by assumption) ?_
            rotate_left
            · (intro w hSw; (try dsimp only at hSw); go_simp; try with_reducible rfl)
            try simp only [List.setIfInBounds_toArray, List.set_cons_zero, List.set_cons_succ]
            refine take_by 3 46 (v := ?_) rfl rfl (by kernel_rfl) (by kernel_rfl) (by kernel_rfl) (fun _ _ _ h => h) (Or.inl ⟨by rfl, ?_⟩) (by assumption) ?_
            rotate_left
            · (intro w hSw; (try dsimp only at hSw); go_simp; try with_reducible rfl)
            try simp only [List.setIfInBounds_toArray, List.set_cons_zero, List.set_cons_succ]
            refine take_by 4 47 (v := ?_) rfl rfl (by kernel_rfl) (by kernel_rfl) (by kernel_rfl) (fun _ _ _ h => h) (Or.inl ⟨by rfl, ?_⟩) (by assumption) ?_
            rotate_left
            · (intro w hSw; (try dsimp only at hSw); go_simp; try with_reducible rfl)
            try simp only [List.setIfInBounds_toArray, List.set_cons_zero, List.set_cons_succ]
            refine take_by 5 48 (v := ?_) rfl rfl (by kernel_rfl) (by kernel_rfl) (by kernel_rfl) (fun _ _ _ h => h) (Or.inl ⟨by rfl, ?_⟩) (by assumption) ?_
            rotate_left
            · (intro w hSw; (try dsimp only at hSw); go_simp; try with_reducible rfl)
            try simp only [List.setIfInBounds_toArray, List.set_cons_zero, List.set_cons_succ]
            refine take_by 6 49 (v := .agg (itc (at_ h (j))).toArray) rfl rfl (by kernel_rfl) (by kernel_rfl) (by kernel_rfl) (fun _ _ _ h => h) (yieldsIf_load_mid (by rfl) 110 (.tmp 48) rfl g ((j) * 13) rfl (itc (at_ h (j))) _ (fun _ hS => hS.2.1) Tryz.underlying110 rfl (by kernel_rfl)) (by assumption) ?_
            try simp only [List.setIfInBounds_toArray, List.set_cons_zero, List.set_cons_succ]
            refine take_by 7 50 (v := ?_) rfl rfl (by kernel_rfl) (by kernel_rfl) (by kernel_rfl) (fun _ _ _ h => h) (Or.inl ⟨by rfl, ?_⟩) (by assumption) ?_
            rotate_left
            · (intro w hSw; (try dsimp only at hSw); go_simp; try with_reducible rfl)
            try simp only [List.setIfInBounds_toArray, List.set_cons_zero, List.set_cons_succ]
            refine take_by 8 51 (v := ?_) rfl rfl (by kernel_rfl) (by kernel_rfl) (by kernel_rfl) (fun _ _ _ h => h) (Or.inl ⟨by rfl, ?_⟩) (by assumption) ?_
            rotate_left
            · (intro w hSw; (try dsimp only at hSw); go_simp; try with_reducible rfl)
            try simp only [List.setIfInBounds_toArray, List.set_cons_zero, List.set_cons_succ]
            refine take_by 9 52 (v := ?_) rfl rfl (by kernel_rfl) (by kernel_rfl) (by kernel_rfl) (fun _ _ _ h => h) (Or.inl ⟨by rfl, ?_⟩) (by assumption) ?_
            rotate_left
            · (intro w hSw; (try dsimp only at hSw); go_simp; try with_reducible rfl)
            try simp only [List.setIfInBounds_toArray, List.set_cons_zero, List.set_cons_succ]
            refine take_by 10 53 (v := ?_) rfl rfl (by kernel_rfl) (by kernel_rfl) (by kernel_rfl) (fun _ _ _ h => h) (Or.inl ⟨by rfl, ?_⟩) (by assumption) ?_
            rotate_left
            · (intro w hSw; (try dsimp only at hSw); go_simp; try with_reducible rfl)
            try simp only [List.setIfInBounds_toArray, List.set_cons_zero, List.set_cons_succ]
            refine take_by 11 54 (v := ?_) rfl rfl (by kernel_rfl) (by kernel_rfl) (by kernel_rfl) (fun _ _ _ h => h) (Or.inl ⟨by rfl, ?_⟩) (by assumption) ?_
            rotate_left
            · (intro w hSw; (try dsimp only at hSw); go_simp; try with_reducible rfl)
            try simp only [List.setIfInBounds_toArray, List.set_cons_zero, List.set_cons_succ]
            refine take_by 12 55 (v := ?_) rfl rfl (by kernel_rfl) (by kernel_rfl) (by kernel_rfl) (fun _ _ _ h => h) (Or.inl ⟨by rfl, ?_⟩) (by assumption) ?_
            rotate_left
            · (intro w hSw; (try dsimp only at hSw); go_simp; try with_reducible rfl)
            try simp only [List.setIfInBounds_toArray, List.set_cons_zero, List.set_cons_succ]
            refine take_by 13 56 (v := .agg (itc (at_ h (i))).toArray) rfl rfl (by kernel_rfl) (by kernel_rfl) (by kernel_rfl) (fun _ _ _ h => h) (yieldsIf_load_mid (by rfl) 110 (.tmp 55) rfl g ((i) * 13) rfl (itc (at_ h (i))) _ (fun _ hS => hS.2.2) Tryz.underlying110 rfl (by kernel_rfl)) (by assumption) ?_
            try simp only [List.setIfInBounds_toArray, List.set_cons_zero, List.set_cons_succ]
            refine wpAnyH_ready (rs := [14]) (by kernel_rfl) (by simp) ?_
            refine AllReadyH.cons rfl (fun K hK => ?_) AllReadyH.nil
            go_simp
            (go_at_call 74; refine (HAH.out _).mono ?_; rintro e w4 ⟨rfl, hk4⟩; have K4 := hx (show Kept [] wc w4 from (Kept.drew (Kept.refl [] wc)).trans0 hk4); clear hk4)
            refine hK.out _ _ (HSK.out _ K4.out) (fun hHeld => ?_)
            clear hK K
            try simp only [Act.put, List.setIfInBounds_toArray, List.set_cons_zero, List.set_cons_succ]
            refine take_by 15 58 (v := ?_) rfl rfl (by kernel_rfl) (by kernel_rfl) (by kernel_rfl) (fun _ _ _ h => h) (Or.inl ⟨by rfl, ?_⟩) (by assumption) ?_
            rotate_left
            · (intro w hSw; (try dsimp only at hSw); go_simp; try with_reducible rfl)
            try simp only [List.setIfInBounds_toArray, List.set_cons_zero, List.set_cons_succ]
            refine wpAnyH_done (by kernel_rfl) ?_ _
            go_wp2_with fail
            go_meet
            exact ⟨rfl, K4.out⟩
          case rest =>
            obtain ⟨rfl, hkx⟩ := hcut
            have m2 := m'.kept hkx
            have hk2 := hk'.trans0 hkx
            have HEnd := hx hend
            have HB := hx (show i < h.length ∧ j < h.length ∧ i < j from ⟨hi, hjl, hji⟩)
            clear m' hk' hkx HSK HAH hend hkl hji hjl hi hib hlb hib0 hb hi0
            cases hc : ahB (at_ h j) (at_ h i)
            · have HC := hx hc
              clear hc
              go_wp2
              exact bodyPost_ret (results_none rfl _ _ _) rfl ⟨rfl, by rw [← HU.out, down_stop _ _ (hJ.out ▸ HC.out)]; exact m2, hk2⟩
            · have HC := hx hc
              clear hc
              have hji := HB.out.2.2
              have MD := hx (m2.kept (Kept.refl [] wc).drew)
              have KD := hx hk2.drew
              clear m2 hk2
              go_upto_region 5 with fail
              go_cut [1] (fun s1 wx => s1 = .int .i64 i ∧ Qm wx q g cap room turns (swapL h i j) rest ∧ Kept [g] w wx)
              case first =>
                refine wp_region_held_drew (S := (fun w3 => w3.cell? ⟨q, 2, none⟩ = some (.slice (some ⟨g, 0, none⟩) h.length cap))) (by kernel_rfl) (MD.out.hq.cell (i := 2) rfl) (fun hHeld => ?_)
                refine take_by 0 59 (v := ?_) rfl rfl (by kernel_rfl) (by kernel_rfl) (by kernel_rfl) (fun _ _ _ h => h) (Or.inl ⟨by rfl, ?_⟩) (by assumption) ?_
                rotate_left
                · (intro w hSw; (try dsimp only at hSw); go_simp; try with_reducible rfl)
                try simp only [List.setIfInBounds_toArray, List.set_cons_zero, List.set_cons_succ]
                refine take_by 1 60 (v := ?_) rfl rfl (by kernel_rfl) (by kernel_rfl) (by kernel_rfl) (fun _ _ _ h => h) (Or.inl ⟨by rfl, ?_⟩) (by assumption) ?_
                rotate_left
                · (intro w hSw; (try dsimp only at hSw); go_simp; try with_reducible rfl)
                try simp only [List.setIfInBounds_toArray, List.set_cons_zero, List.set_cons_succ]
                refine take_by 2 61 (v := ?_) rfl rfl (by kernel_rfl) (by kernel_rfl) (by kernel_rfl) (fun _ _ _ h => h) (Or.inl ⟨by rfl, ?_⟩) (by assumption) ?_
                rotate_left
                · (intro w hSw; (try dsimp only at hSw); go_simp; try with_reducible rfl)
                try simp only [List.setIfInBounds_toArray, List.set_cons_zero, List.set_cons_succ]
                refine take_by 3 62 (v := ?_) rfl rfl (by kernel_rfl) (by kernel_rfl) (by kernel_rfl) (fun _ _ _ h => h) (Or.inl ⟨by rfl, ?_⟩) (by assumption) ?_
                rotate_left
                · (intro w hSw; (try dsimp only at hSw); go_simp; try with_reducible rfl)
                try simp only [List.setIfInBounds_toArray, List.set_cons_zero, List.set_cons_succ]
                refine take_by 4 63 (v := ?_) rfl rfl (by kernel_rfl) (by kernel_rfl) (by kernel_rfl) (fun _ _ _ h => h) (Or.inl ⟨by rfl, ?_⟩) (by assumption) ?_
                rotate_left
                · (intro w hSw; (try dsimp only at hSw); go_simp; try with_reducible rfl)
                try simp only [List.setIfInBounds_toArray, List.set_cons_zero, List.set_cons_succ]
                refine take_by 5 64 (v := ?_) rfl rfl (by kernel_rfl) (by kernel_rfl) (by kernel_rfl) (fun _ _ _ h => h) (Or.inl ⟨by rfl, ?_⟩) (by assumption) ?_
                rotate_left
                · (intro w hSw; (try dsimp only at hSw); go_simp; try with_reducible rfl)
                try simp only [List.setIfInBounds_toArray, List.set_cons_zero, List.set_cons_succ]
                refine take_by 6 65 (v := ?_) rfl rfl (by kernel_rfl) (by kernel_rfl) (by kernel_rfl) (fun _ _ _ h => h) (Or.inl ⟨by rfl, ?_⟩) (by assumption) ?_
                rotate_left
                · (intro w hSw; (try dsimp only at hSw); go_simp; try with_reducible rfl)
                try simp only [List.setIfInBounds_toArray, List.set_cons_zero, List.set_cons_succ]
                refine take_by 7 66 (v := ?_) rfl rfl (by kernel_rfl) (by kernel_rfl) (by kernel_rfl) (fun _ _ _ h => h) (Or.inl ⟨by rfl, ?_⟩) (by assumption) ?_
                rotate_left
                · (intro w hSw; (try dsimp only at hSw); go_simp; try with_reducible rfl)
                try simp only [List.setIfInBounds_toArray, List.set_cons_zero, List.set_cons_succ]
                refine take_by 8 67 (v := ?_) rfl rfl (by kernel_rfl) (by kernel_rfl) (by kernel_rfl) (fun _ _ _ h => h) (Or.inl ⟨by rfl, ?_⟩) (by assumption) ?_
                rotate_left
                · (intro w hSw; (try dsimp only at hSw); go_simp; try with_reducible rfl)
                try simp only [List.setIfInBounds_toArray, List.set_cons_zero, List.set_cons_succ]
                refine take_by 9 68 (v := ?_) rfl rfl (by kernel_rfl) (by kernel_rfl) (by kernel_rfl) (fun _ _ _ h => h) (Or.inl ⟨by rfl, ?_⟩) (by assumption) ?_
                rotate_left
                · (intro w hSw; (try dsimp only at hSw); go_simp; try with_reducible rfl)
                try simp only [List.setIfInBounds_toArray, List.set_cons_zero, List.set_cons_succ]
                refine take_by 10 69 (v := ?_) rfl rfl (by kernel_rfl) (by kernel_rfl) (by kernel_rfl) (fun _ _ _ h => h) (Or.inl ⟨by rfl, ?_⟩) (by assumption) ?_
                rotate_left
                · (intro w hSw; (try dsimp only at hSw); go_simp; try with_reducible rfl)
                try simp only [List.setIfInBounds_toArray, List.set_cons_zero, List.set_cons_succ]
                refine take_by 11 70 (v := ?_) rfl rfl (by kernel_rfl) (by kernel_rfl) (by kernel_rfl) (fun _ _ _ h => h) (Or.inl ⟨by rfl, ?_⟩) (by assumption) ?_
                rotate_left
                · (intro w hSw; (try dsimp only at hSw); go_simp; try with_reducible rfl)
                try simp only [List.setIfInBounds_toArray, List.set_cons_zero, List.set_cons_succ]
                refine take_by 12 71 (v := ?_) rfl rfl (by kernel_rfl) (by kernel_rfl) (by kernel_rfl) (fun _ _ _ h => h) (Or.inl ⟨by rfl, ?_⟩) (by assumption) ?_
                rotate_left
                · (intro w hSw; (try dsimp only at hSw); go_simp; try with_reducible rfl)
                try simp only [List.setIfInBounds_toArray, List.set_cons_zero, List.set_cons_succ]
                refine take_by 13 72 (v := ?_) rfl rfl (by kernel_rfl) (by kernel_rfl) (by kernel_rfl) (fun _ _ _ h => h) (Or.inl ⟨by rfl, ?_⟩) (by assumption) ?_
                rotate_left
                · (intro w hSw; (try dsimp only at hSw); go_simp; try with_reducible rfl)
                try simp only [List.setIfInBounds_toArray, List.set_cons_zero, List.set_cons_succ]
                refine take_by 14 73 (v := ?_) rfl rfl (by kernel_rfl) (by kernel_rfl) (by kernel_rfl) (fun _ _ _ h => h) (Or.inl ⟨by rfl, ?_⟩) (by assumption) ?_
                rotate_left
                · (intro w hSw; (try dsimp only at hSw); go_simp; try with_reducible rfl)
                try simp only [List.setIfInBounds_toArray, List.set_cons_zero, List.set_cons_succ]
                refine take_by 15 74 (v := ?_) rfl rfl (by kernel_rfl) (by kernel_rfl) (by kernel_rfl) (fun _ _ _ h => h) (Or.inl ⟨by rfl, ?_⟩) (by assumption) ?_
                rotate_left
                · (intro w hSw; (try dsimp only at hSw); go_simp; try with_reducible rfl)
                try simp only [List.setIfInBounds_toArray, List.set_cons_zero, List.set_cons_succ]
                refine take_by 17 76 (v := ?_) rfl rfl (by kernel_rfl) (by kernel_rfl) (by kernel_rfl) (fun _ _ _ h => h) (Or.inl ⟨by rfl, ?_⟩) (by assumption) ?_
                rotate_left
                · (intro w hSw; (try dsimp only at hSw); go_simp; try with_reducible rfl)
                try simp only [List.setIfInBounds_toArray, List.set_cons_zero, List.set_cons_succ]
                refine take_by 18 77 (v := ?_) rfl rfl (by kernel_rfl) (by kernel_rfl) (by kernel_rfl) (fun _ _ _ h => h) (Or.inl ⟨by rfl, ?_⟩) (by assumption) ?_
                rotate_left
                · (intro w hSw; (try dsimp only at hSw); go_simp; try with_reducible rfl)
                try simp only [List.setIfInBounds_toArray, List.set_cons_zero, List.set_cons_succ]
                refine take_by 19 78 (v := ?_) rfl rfl (by kernel_rfl) (by kernel_rfl) (by kernel_rfl) (fun _ _ _ h => h) (Or.inl ⟨by rfl, ?_⟩) (by assumption) ?_
                rotate_left
                · (intro w hSw; (try dsimp only at hSw); go_simp; try with_reducible rfl)
                try simp only [List.setIfInBounds_toArray, List.set_cons_zero, List.set_cons_succ]
                refine take_by 20 79 (v := ?_) rfl rfl (by kernel_rfl) (by kernel_rfl) (by kernel_rfl) (fun _ _ _ h => h) (Or.inl ⟨by rfl, ?_⟩) (by assumption) ?_
                rotate_left
                · (intro w hSw; (try dsimp only at hSw); go_simp; try with_reducible rfl)
                try simp only [List.setIfInBounds_toArray, List.set_cons_zero, List.set_cons_succ]
                refine take_by 21 80 (v := ?_) rfl rfl (by kernel_rfl) (by kernel_rfl) (by kernel_rfl) (fun _ _ _ h => h) (Or.inl ⟨by rfl, ?_⟩) (by assumption) ?_
                rotate_left
                · (intro w hSw; (try dsimp only at hSw); go_simp; try with_reducible rfl)
                try simp only [List.setIfInBounds_toArray, List.set_cons_zero, List.set_cons_succ]
                refine take_by 22 81 (v := ?_) rfl rfl (by kernel_rfl) (by kernel_rfl) (by kernel_rfl) (fun _ _ _ h => h) (Or.inl ⟨by rfl, ?_⟩) (by assumption) ?_
                rotate_left
                · (intro w hSw; (try dsimp only at hSw); go_simp; try with_reducible rfl)
                try simp only [List.setIfInBounds_toArray, List.set_cons_zero, List.set_cons_succ]
                refine wpAnyH_ready (rs := [16, 23]) (by kernel_rfl) (by simp) ?_
                refine AllReadyH.cons rfl (fun K hK => ?_) (AllReadyH.cons rfl (fun K hK => ?_) AllReadyH.nil)
                · refine wp_loadIt rfl (.tmp 74) rfl MD.out HB.out.2.1 rfl ?_
                  refine hK.out _ _ (MD.out.hq.cell (i := 2) rfl) (fun _ => ?_)
                  clear hK K
                  try simp only [Act.put, List.getElem_toArray, List.getElem_cons_succ, List.getElem_cons_zero, List.setIfInBounds_toArray, List.set_cons_zero, List.set_cons_succ]
                  refine wpAnyH_ready (rs := [23]) (by kernel_rfl) (by simp) ?_
                  refine AllReadyH.cons rfl (fun K hK => ?_) AllReadyH.nil
                  refine wp_loadIt rfl (.tmp 81) rfl MD.out HB.out.1 rfl ?_
                  refine hK.out _ _ (MD.out.hq.cell (i := 2) rfl) (fun _ => ?_)
                  clear hK K
                  try simp only [Act.put, List.getElem_toArray, List.getElem_cons_succ, List.getElem_cons_zero, List.setIfInBounds_toArray, List.set_cons_zero, List.set_cons_succ]
                  refine take_by 24 83 (v := ?_) rfl rfl (by kernel_rfl) (by kernel_rfl) (by kernel_rfl) (fun _ _ _ h => h) (Or.inl ⟨by rfl, ?_⟩) (by assumption) ?_
                  rotate_left
                  · (intro w hSw; (try dsimp only at hSw); go_simp; try with_reducible rfl)
                  try simp only [List.setIfInBounds_toArray, List.set_cons_zero, List.set_cons_succ]
                  refine wpAnyH_ready (rs := [25]) (by kernel_rfl) (by simp) ?_
                  refine AllReadyH.cons rfl (fun K hK => ?_) AllReadyH.nil
                  refine wp_storeIt rfl (.tmp 83) (.tmp 75) rfl MD.out (HB.out.1) (at_ h (j)) rfl rfl KD.out (.inl (by simp)) ?_
                  intro wa ma ka za ba
                  have Ma := hx ma
                  have Za := hx za
                  have Ba := hx ba
                  have Xa := hx ka
                  have hh := ma.hq.cell (i := 2) rfl
                  simp only [List.length_set] at hh
                  clear ma ka za ba
                  refine hK.out _ _ hh (fun _ => ?_)
                  clear hK K hh
                  try simp only [Act.put, List.getElem_toArray, List.getElem_cons_succ, List.getElem_cons_zero, List.setIfInBounds_toArray, List.set_cons_zero, List.set_cons_succ]
                  refine take_by 26 84 (v := ?_) rfl rfl (by kernel_rfl) (by kernel_rfl) (by kernel_rfl) (fun _ _ _ h => h) (Or.inl ⟨by rfl, ?_⟩) (by assumption) ?_
                  rotate_left
                  · (intro w hSw; (try dsimp only at hSw); go_simp; try with_reducible rfl)
                  try simp only [List.setIfInBounds_toArray, List.set_cons_zero, List.set_cons_succ]
                  refine wpAnyH_ready (rs := [27]) (by kernel_rfl) (by simp) ?_
                  refine AllReadyH.cons rfl (fun K hK => ?_) AllReadyH.nil
                  refine wp_storeIt rfl (.tmp 84) (.tmp 82) rfl Ma.out (by rw [List.length_set]; exact HB.out.2.1) (at_ h (i)) rfl rfl Xa.out (.inl (by simp)) ?_
                  intro wb mb kb zb bb
                  have Mb := hx mb
                  have Zb := hx zb
                  have Bb := hx bb
                  have Xb := hx kb
                  have hh := mb.hq.cell (i := 2) rfl
                  simp only [List.length_set] at hh
                  clear mb kb zb bb
                  refine hK.out _ _ hh (fun _ => ?_)
                  clear hK K hh
                  try simp only [Act.put, List.getElem_toArray, List.getElem_cons_succ, List.getElem_cons_zero, List.setIfInBounds_toArray, List.set_cons_zero, List.set_cons_succ]
                  refine wpAnyH_done (by kernel_rfl) ?_ _
                  go_wp2_with fail
                  go_meet
                  exact ⟨rfl, Mb.out, Xb.out⟩
                · refine wp_loadIt rfl (.tmp 81) rfl MD.out HB.out.1 rfl ?_
                  refine hK.out _ _ (MD.out.hq.cell (i := 2) rfl) (fun _ => ?_)
                  clear hK K
                  try simp only [Act.put, List.getElem_toArray, List.getElem_cons_succ, List.getElem_cons_zero, List.setIfInBounds_toArray, List.set_cons_zero, List.set_cons_succ]
                  refine wpAnyH_ready (rs := [16]) (by kernel_rfl) (by simp) ?_
                  refine AllReadyH.cons rfl (fun K hK => ?_) AllReadyH.nil
                  refine wp_loadIt rfl (.tmp 74) rfl MD.out HB.out.2.1 rfl ?_
                  refine hK.out _ _ (MD.out.hq.cell (i := 2) rfl) (fun _ => ?_)
                  clear hK K
                  try simp only [Act.put, List.getElem_toArray, List.getElem_cons_succ, List.getElem_cons_zero, List.setIfInBounds_toArray, List.set_cons_zero, List.set_cons_succ]
                  refine take_by 24 83 (v := ?_) rfl rfl (by kernel_rfl) (by kernel_rfl) (by kernel_rfl) (fun _ _ _ h => h) (Or.inl ⟨by rfl, ?_⟩) (by assumption) ?_
                  rotate_left
                  · (intro w hSw; (try dsimp only at hSw); go_simp; try with_reducible rfl)
                  try simp only [List.setIfInBounds_toArray, List.set_cons_zero, List.set_cons_succ]
                  refine wpAnyH_ready (rs := [25]) (by kernel_rfl) (by simp) ?_
                  refine AllReadyH.cons rfl (fun K hK => ?_) AllReadyH.nil
                  refine wp_storeIt rfl (.tmp 83) (.tmp 75) rfl MD.out (HB.out.1) (at_ h (j)) rfl rfl KD.out (.inl (by simp)) ?_
                  intro wa ma ka za ba
                  have Ma := hx ma
                  have Za := hx za
                  have Ba := hx ba
                  have Xa := hx ka
                  have hh := ma.hq.cell (i := 2) rfl
                  simp only [List.length_set] at hh
                  clear ma ka za ba
                  refine hK.out _ _ hh (fun _ => ?_)
                  clear hK K hh
                  try simp only [Act.put, List.getElem_toArray, List.getElem_cons_succ, List.getElem_cons_zero, List.setIfInBounds_toArray, List.set_cons_zero, List.set_cons_succ]
                  refine take_by 26 84 (v := ?_) rfl rfl (by kernel_rfl) (by kernel_rfl) (by kernel_rfl) (fun _ _ _ h => h) (Or.inl ⟨by rfl, ?_⟩) (by assumption) ?_
                  rotate_left
                  · (intro w hSw; (try dsimp only at hSw); go_simp; try with_reducible rfl)
                  try simp only [List.setIfInBounds_toArray, List.set_cons_zero, List.set_cons_succ]
                  refine wpAnyH_ready (rs := [27]) (by kernel_rfl) (by simp) ?_
                  refine AllReadyH.cons rfl (fun K hK => ?_) AllReadyH.nil
                  refine wp_storeIt rfl (.tmp 84) (.tmp 82) rfl Ma.out (by rw [List.length_set]; exact HB.out.2.1) (at_ h (i)) rfl rfl Xa.out (.inl (by simp)) ?_
                  intro wb mb kb zb bb
                  have Mb := hx mb
                  have Zb := hx zb
                  have Bb := hx bb
                  have Xb := hx kb
                  have hh := mb.hq.cell (i := 2) rfl
                  simp only [List.length_set] at hh
                  clear mb kb zb bb
                  refine hK.out _ _ hh (fun _ => ?_)
                  clear hK K hh
                  try simp only [Act.put, List.getElem_toArray, List.getElem_cons_succ, List.getElem_cons_zero, List.setIfInBounds_toArray, List.set_cons_zero, List.set_cons_succ]
                  refine wpAnyH_done (by kernel_rfl) ?_ _
                  go_wp2_with fail
                  go_meet
                  exact ⟨rfl, Mb.out, Xb.out⟩
              case rest =>
                obtain ⟨rfl, m3, hk3⟩ := hcut
                clear MD KD
                go_wp2
                go_roundw
                case rel => exact ⟨j, swapL h i j, rfl, by rw [swap_len]; exact HB.out.2.1, by rw [swap_len]; exact HL.out, by rw [← HU.out, down_go h i HEnd.out (hJ.out ▸ HC.out), ← hJ.out], m3, hk3⟩
                case measure =>
                  have := HL.out
                  have := HB.out
                  simp [intOf] <;> omega
    · have t1 : (h.length : Int) ≤ 2 * (i : Int) + 1 := by omega
      go_wp2
      exact bodyPost_ret (results_none rfl _ _ _) rfl ⟨rfl, by rw [← HU.out, down_end _ _ hend]; exact m, hk⟩
end Go.Proofs.YtgdofgckjkmhjaaGreat.Qd
namespace Go.Proofs.YtgdofgckjkmhjaaGreat.Qd
open Go Go.RowKit
theorem cel_app (a b : List It) : cel (a ++ b) = cel a ++ cel b := by simp [cel]
/-- The cells when the last item is cut off. -/
theorem cel_cut (h : List It) (i : Nat) (hi : i < h.length) : cel (h.set i (at_ h (h.length - 1))) = cel ((h.set i (at_ h (h.length - 1))).take (h.length - 1)) ++ itc (at_ h (h.length - 1)) := by
  have hl : (h.set i (at_ h (h.length - 1))).length = h.length := by simp
  have hs : h.set i (at_ h (h.length - 1)) = (h.set i (at_ h (h.length - 1))).take (h.length - 1) ++ [at_ h (h.length - 1)] := by
    have h1 := List.take_append_drop (h.length - 1) (h.set i (at_ h (h.length - 1)))
    rw [List.drop_eq_getElem_cons (by omega), List.drop_of_length_le (by omega)] at h1
    have h2 : (h.set i (at_ h (h.length - 1)))[h.length - 1]'(by omega) = at_ h (h.length - 1) := by
      rw [← at_get _ _ (by omega), at_set _ _ _ _ hi]
      split
      · rfl
      · rfl
    rw [h2] at h1
    exact h1.symm
  conv => lhs; rw [hs, cel_app]
  simp [cel]
/-- The last item is cut off. -/
theorem Qm.cut {w : World} {q g cap : Nat} {room turns : Int} {h : List It} {rest : List Value} (i : Nat) (hi : i < h.length) (m : Qm w q g cap room turns (h.set i (at_ h (h.length - 1))) rest) (n : Nat) (hn : h.length - 1 = n) :
    Qm (w.setCell ⟨q, 2, none⟩ (.slice (some ⟨g, 0, none⟩) n cap)) q g cap room turns ((h.set i (at_ h (h.length - 1))).take (h.length - 1)) (itc (at_ h (h.length - 1)) ++ rest) := by
  subst hn
  have hq := m.hq.set 2 (.slice (some ⟨g, 0, none⟩) (h.length - 1) cap)
  have hg := m.hg.set_ne (a := ⟨q, 2, none⟩) (Ne.symm m.hne) (.slice (some ⟨g, 0, none⟩) (h.length - 1) cap)
  have hl := m.hl
  have hr := m.hrest
  rw [cel_cut h i hi, List.append_assoc] at hg hr
  exact ⟨by rw [cut_len]; exact hq, hg, by rw [cut_len]; simp at hl; omega, m.hcap, hr, m.hne⟩
set_option linter.unusedSimpArgs false in
set_option maxRecDepth 100000 in
set_option maxHeartbeats 6400000 in
theorem last_any (q g cap : Nat) (room turns : Int) (h : List It) (rest : List Value) (w : World) (m : Qm w q g cap room turns h rest) (h0 : 0 < h.length) (hb : h.length ≤ 1000000) :
    Calls Tryz.prog 46 #[.pointer (some ⟨q, 0, none⟩)] w fun e w' => e = .returned (.int .i64 (lastK h h.length)) ∧ Kept [] w w' := by
  have hc2 : w.cell? ⟨q, 2, none⟩ = some (.slice (some ⟨g, 0, none⟩) h.length cap) := m.hq.cell (i := 2) rfl
  go_enter Tryz.func46, Tryz.ntmps46
  go_wp2
  go_loopw [3, 10] (fun kv nv wr => ∃ n : Nat, n ≤ h.length ∧ nv = .int .i64 n ∧ kv = .int .i64 (lastK h n) ∧ Kept [] w wr) (fun _ nv _ => h.length - (intOf nv).toNat)
  case atStart => exact ⟨0, by omega, rfl, rfl, Kept.refl _ _⟩
  case round =>
    obtain ⟨n, hn, rfl, rfl, hk⟩ := hrel
    clear hc2
    by_cases hlt : n < h.length
    · have m' := m.kept hk
      obtain ⟨k, hkk⟩ : ∃ k, k = lastK h n := ⟨_, rfl⟩
      have hkl : k < h.length := by have := lastK_lt h n; rw [hkk]; omega
      have HS0 := hx (show lastK h (n + 1) = if ahB (at_ h k) (at_ h n) = true then n else k by rw [hkk]; rfl)
      rw [← hkk]
      clear hkk
      have HSK := hx (fun (w3 : World) (hk3 : Kept [] wr w3) => show (fun w3 => w3.cell? ⟨q, 2, none⟩ = some (.slice (some ⟨g, 0, none⟩) h.length cap) ∧ w3.rangeAt g ((k) * 13) (itc (at_ h (k))) ∧ w3.rangeAt g ((n) * 13) (itc (at_ h (n)))) w3 from ⟨(m'.kept hk3).hq.cell (i := 2) rfl, (m'.kept hk3).at k hkl, (m'.kept hk3).at n hlt⟩)
      have HAH := hx (fun W => ahead_any (at_ h k) (at_ h n) W)
      have i1 : (k : Int) < (h.length : Int) := by omega
      have i2 : (n : Int) < (h.length : Int) := by omega
      have i3 : (0 : Int) ≤ (k : Int) := by omega
      have i4 : (0 : Int) ≤ (n : Int) := by omega
      have i5 : decide (n < h.length) = true := by simp; omega
      go_upto_region 5 with fail
      go_cut [27] (fun s27 wx => s27 = .bool (ahB (at_ h k) (at_ h n)) ∧ Kept [] wr wx)
      case first =>
        refine wp_region_held_drew (S := (fun w3 => w3.cell? ⟨q, 2, none⟩ = some (.slice (some ⟨g, 0, none⟩) h.length cap) ∧ w3.rangeAt g ((k) * 13) (itc (at_ h (k))) ∧ w3.rangeAt g ((n) * 13) (itc (at_ h (n))))) (by kernel_rfl) (HSK.out _ (Kept.drew (Kept.refl [] wr))) (fun hHeld => ?_)
        refine take_by 0 13 (v := ?_) rfl rfl (by kernel_rfl) (by kernel_rfl) (by kernel_rfl) (fun _ _ _ h => h) (Or.inl ⟨by rfl, ?_⟩) (by assumption) ?_
        rotate_left
        · (intro w hSw; (try dsimp only at hSw); go_simp; try with_reducible rfl)
        try simp only [List.setIfInBounds_toArray, List.set_cons_zero, List.set_cons_succ]
        refine take_by 1 14 (v := ?_) rfl rfl (by kernel_rfl) (by kernel_rfl) (by kernel_rfl) (fun _ _ _ h => h) (Or.inl ⟨by rfl, ?_⟩) (by assumption) ?_
        rotate_left
        · (intro w hSw; (try dsimp only at hSw); go_simp; try with_reducible rfl)
        try simp only [List.setIfInBounds_toArray, List.set_cons_zero, List.set_cons_succ]
        refine take_by 2 15 (v := ?_) rfl rfl (by kernel_rfl) (by kernel_rfl) (by kernel_rfl) (fun _ _ _ h => h) (Or.inl ⟨by rfl, ?_⟩) (by assumption) ?_
        rotate_left
        · (intro w hSw; (try dsimp only at hSw); go_simp; try with_reducible rfl)
        try simp only [List.setIfInBounds_toArray, List.set_cons_zero, List.set_cons_succ]
        refine take_by 3 16 (v := ?_) rfl rfl (by kernel_rfl) (by kernel_rfl) (by kernel_rfl) (fun _ _ _ h => h) (Or.inl ⟨by rfl, ?_⟩) (by assumption) ?_
        rotate_left
        · (intro w hSw; (try dsimp only at hSw); go_simp; try with_reducible rfl)
        try simp only [List.setIfInBounds_toArray, List.set_cons_zero, List.set_cons_succ]
        refine take_by 4 17 (v := ?_) rfl rfl (by kernel_rfl) (by kernel_rfl) (by kernel_rfl) (fun _ _ _ h => h) (Or.inl ⟨by rfl, ?_⟩) (by assumption) ?_
        rotate_left
        · (intro w hSw; (try dsimp only at hSw); go_simp; try with_reducible rfl)
        try simp only [List.setIfInBounds_toArray, List.set_cons_zero, List.set_cons_succ]
        refine take_by 5 18 (v := ?_) rfl rfl (by kernel_rfl) (by kernel_rfl) (by kernel_rfl) (fun _ _ _ h => h) (Or.inl ⟨by rfl, ?_⟩) (by assumption) ?_
        rotate_left
        · (intro w hSw; (try dsimp only at hSw); go_simp; try with_reducible rfl)
        try simp only [List.setIfInBounds_toArray, List.set_cons_zero, List.set_cons_succ]
        refine take_by 6 19 (v := .agg (itc (at_ h (k))).toArray) rfl rfl (by kernel_rfl) (by kernel_rfl) (by kernel_rfl) (fun _ _ _ h => h) (yieldsIf_load_mid (by rfl) 110 (.tmp 18) rfl g ((k) * 13) rfl (itc (at_ h (k))) _ (fun _ hS => hS.2.1) Tryz.underlying110 rfl (by kernel_rfl)) (by assumption) ?_
        try simp only [List.setIfInBounds_toArray, List.set_cons_zero, List.set_cons_succ]
        refine take_by 7 20 (v := ?_) rfl rfl (by kernel_rfl) (by kernel_rfl) (by kernel_rfl) (fun _ _ _ h => h) (Or.inl ⟨by rfl, ?_⟩) (by assumption) ?_
        rotate_left
        · (intro w hSw; (try dsimp only at hSw); go_simp; try with_reducible rfl)
        try simp only [List.setIfInBounds_toArray, List.set_cons_zero, List.set_cons_succ]
        refine take_by 8 21 (v := ?_) rfl rfl (by kernel_rfl) (by kernel_rfl) (by kernel_rfl) (fun _ _ _ h => h) (Or.inl ⟨by rfl, ?_⟩) (by assumption) ?_
        rotate_left
        · (intro w hSw; (try dsimp only at hSw); go_simp; try with_reducible rfl)
        try simp only [List.setIfInBounds_toArray, List.set_cons_zero, List.set_cons_succ]
        refine take_by 9 22 (v := ?_) rfl rfl (by kernel_rfl) (by kernel_rfl) (by kernel_rfl) (fun _ _ _ h => h) (Or.inl ⟨by rfl, ?_⟩) (by assumption) ?_
        rotate_left
        · (intro w hSw; (try dsimp only at hSw); go_simp; try with_reducible rfl)
        try simp only [List.setIfInBounds_toArray, List.set_cons_zero, List.set_cons_succ]
        refine take_by 10 23 (v := ?_) rfl rfl (by kernel_rfl) (by kernel_rfl) (by kernel_rfl) (fun _ _ _ h => h) (Or.inl ⟨by rfl, ?_⟩) (by assumption) ?_
        rotate_left
        · (intro w hSw; (try dsimp only at hSw); go_simp; try with_reducible rfl)
        try simp only [List.setIfInBounds_toArray, List.set_cons_zero, List.set_cons_succ]
        refine take_by 11 24 (v := ?_) rfl rfl (by kernel_rfl) (by kernel_rfl) (by kernel_rfl) (fun _ _ _ h => h) (Or.inl ⟨by rfl, ?_⟩) (by assumption) ?_
        rotate_left
        · (intro w hSw; (try dsimp only at hSw); go_simp; try with_reducible rfl)
        try simp only [List.setIfInBounds_toArray, List.set_cons_zero, List.set_cons_succ]
        refine take_by 12 25 (v := ?_) rfl rfl (by kernel_rfl) (by kernel_rfl) (by kernel_rfl) (fun _ _ _ h => h) (Or.inl ⟨by rfl, ?_⟩) (by assumption) ?_
        rotate_left
        · (intro w hSw; (try dsimp only at hSw); go_simp; try with_reducible rfl)
        try simp only [List.setIfInBounds_toArray, List.set_cons_zero, List.set_cons_succ]
        refine take_by 13 26 (v := .agg (itc (at_ h (n))).toArray) rfl rfl (by kernel_rfl) (by kernel_rfl) (by kernel_rfl) (fun _ _ _ h => h) (yieldsIf_load_mid (by rfl) 110 (.tmp 25) rfl g ((n) * 13) rfl (itc (at_ h (n))) _ (fun _ hS => hS.2.2) Tryz.underlying110 rfl (by kernel_rfl)) (by assumption) ?_
        try simp only [List.setIfInBounds_toArray, List.set_cons_zero, List.set_cons_succ]
        refine wpAnyH_ready (rs := [14]) (by kernel_rfl) (by simp) ?_
        refine AllReadyH.cons rfl (fun K hK => ?_) AllReadyH.nil
        go_simp
        (go_at_call 74; refine (HAH.out _).mono ?_; rintro e w4 ⟨rfl, hk4⟩; have K4 := hx (show Kept [] wr w4 from (Kept.drew (Kept.refl [] wr)).trans0 hk4); clear hk4)
        refine hK.out _ _ (HSK.out _ K4.out) (fun hHeld => ?_)
        clear hK K
        try simp only [Act.put, List.setIfInBounds_toArray, List.set_cons_zero, List.set_cons_succ]
        refine wpAnyH_done (by kernel_rfl) ?_ _
        go_wp2_with fail
        go_meet
        exact ⟨rfl, K4.out⟩
      case rest =>
        obtain ⟨rfl, hkx⟩ := hcut
        have hk2 := hk.trans0 hkx
        clear HSK HAH m' hk hkx
        cases hc : ahB (at_ h k) (at_ h n)
        · have HE := hx (show (lastK h (n + 1) : Int) = (k : Int) by rw [HS0.out, if_neg (by simp [hc])])
          clear hc
          go_wp2
          go_roundw
          case rel => exact ⟨n + 1, by omega, by go_num, congrArg (Value.int .i64) HE.out.symm, hk2⟩
          case measure => simp [intOf] <;> omega
        · have HE := hx (show (lastK h (n + 1) : Int) = (n : Int) by rw [HS0.out, if_pos hc])
          clear hc
          go_wp2
          go_roundw
          case rel => exact ⟨n + 1, by omega, by go_num, congrArg (Value.int .i64) HE.out.symm, hk2⟩
          case measure => simp [intOf] <;> omega
    · obtain rfl : n = h.length := by omega
      go_wp2
      go_ret
      exact ⟨rfl, hk⟩
set_option maxRecDepth 100000 in
set_option maxHeartbeats 800000 in
theorem new_any (room : Int) (w : World) (h1 : 1 ≤ room) (h2 : room ≤ 256) :
    Calls Tryz.prog 14 #[.int .i64 room] w fun e w' => e = .returned (.tuple #[.pointer (some ⟨w.heap.size, 0, none⟩), .int .i64 0]) ∧ Blk w' w.heap.size [.int .i64 room, .int .i64 0, .slice none 0 0] 108 ∧ Kept [] w w' := by
  have g1 : decide (room < 1) = false := by simp; omega
  have g2 : decide (256 < room) = false := by simp; omega
  go_enter Tryz.func14, Tryz.ntmps14
  go_wp2
  go_ret2
  exact ⟨rfl, Blk.new' _ _ _, (Kept.refl _ _).alloc _⟩
end Go.Proofs.YtgdofgckjkmhjaaGreat.Qd
namespace Go.Proofs.YtgdofgckjkmhjaaGreat.Qd
open Go Go.RowKit
set_option linter.unusedSimpArgs false in
set_option maxRecDepth 100000 in
set_option maxHeartbeats 6400000 in
theorem take_any (q g cap i : Nat) (I : Int) (room turns : Int) (h : List It) (rest : List Value) (w : World) (m : Qm w q g cap room turns h rest) (hi : i < h.length) (hb : h.length ≤ 1000000) (hI : I = (i : Int)) :
    Calls Tryz.prog 45 #[.pointer (some ⟨q, 0, none⟩), .int .i64 I] w fun e w' => e = .returned (.agg (itc (at_ h i)).toArray) ∧ Qm w' q g cap room turns (takeL h i) (itc (at_ h (h.length - 1)) ++ rest) ∧ Kept [q, g] w w' := by
  subst hI
  have hql := m.hq.lt
  have hgl := m.hg.lt
  have hne := m.hne
  have B1 := hx (Blk.new w (itc it0) 110)
  have K1 := hx ((Kept.refl [] w).alloc (.cells (itc it0).toArray 110))
  have M1 := hx (m.kept K1.out)
  have c2 : ∀ o, (w.alloc o).cell? ⟨q, 2, none⟩ = some (.slice (some ⟨g, 0, none⟩) h.length cap) := fun o => (m.hq.alloc o).cell (i := 2) rfl
  obtain ⟨n, hn⟩ : ∃ n, h.length = n + 1 := ⟨h.length - 1, by omega⟩
  have hn1 : h.length - 1 = n := by omega
  have hni : (i : Int) < (h.length : Int) := by omega
  have hnI : (h.length : Int) - 1 = (n : Int) := by omega
  have hnl : (n : Int) < (h.length : Int) := by omega
  have hn0 : (0 : Int) ≤ (n : Int) := by omega
  have hi0 : (0 : Int) ≤ (i : Int) := by omega
  have hnc : (n : Int) ≤ (cap : Int) := by have := m.hl; omega
  have hlb : (h.length : Int) ≤ 1000000 := by omega
  have HN := hx hn
  have HN1 := hx hn1
  have HI := hx hi
  have HNL := hx (show n < h.length by omega)
  clear m hn hn1 hi
  go_enter Tryz.func45, Tryz.ntmps45
  go_upto_region 2 with (first
    | (refine wpList_load_mid rfl 110 (.tmp 12) rfl g (i * 13) rfl (itc (at_ h i)) _ (M1.out.at i HI.out) Tryz.underlying110 rfl (by kernel_rfl) ?_)
    | (refine store_blk rfl 110 (.tmp 5) (.tmp 13) rfl (w.heap.size + 1) rfl 110 (itc it0) (itc (at_ h i)) rfl (by have h := Blk.new (w.alloc (.cells (itc it0).toArray 110)) (itc it0) 110; rw [show (w.alloc (.cells (itc it0).toArray 110)).heap.size = w.heap.size + 1 by simp] at h; exact h) rfl infoIt (itc_one _) ?_; intro w2 hb2 hk2; have B5 := hx hb2; have K2 := hx (((Kept.refl [] w).alloc _).trans (((Kept.refl [] _).alloc _).trans hk2 (ds := [w.heap.size + 1]) (by simp) (fun x h => .inl h)) (ds := []) (fun _ h => h) (fun x h => by simp at h; subst h; right; omega)); have B4 := hx (hk2.blk (B1.out.alloc _) (by simp)); have B2K := hx ((M1.out.frame (bs := []) ((Kept.refl [] _).alloc _) (by simp) (by simp)).frame hk2 (by simp; omega) (by simp; omega)); clear hb2 hk2))
  have M2 := hx (B2K.out)
  have c2 := M2.out.hq.cell (i := 2) rfl
  go_upto_region 3 with fail
  have MD := hx (M2.out.kept (Kept.refl [] w2).drew)
  have KD := hx (show Kept [g] w w2.drew from K2.out.drew.mono (by simp))
  have HNX := hx (And.intro HNL.out HI.out)
  go_cut [6] (fun s6 wx => s6 = .int .i64 n ∧ Qm wx q g cap room turns (h.set i (at_ h n)) rest ∧ Blk wx w.heap.size (itc it0) 110 ∧ Blk wx (w.heap.size + 1) (itc (at_ h i)) 110 ∧ Kept [g] w wx)
  case first =>
    refine wp_region_held_drew (S := (fun w3 => w3.cell? ⟨q, 2, none⟩ = some (.slice (some ⟨g, 0, none⟩) h.length cap))) (by kernel_rfl) (MD.out.hq.cell (i := 2) rfl) (fun hHeld => ?_)
    refine take_by 0 20 (v := ?_) rfl rfl (by kernel_rfl) (by kernel_rfl) (by kernel_rfl) (fun _ _ _ h => h) (Or.inl ⟨by rfl, ?_⟩) (by assumption) ?_
    rotate_left
    · (intro w hSw; (try dsimp only at hSw); go_simp; try with_reducible rfl)
    try simp only [List.setIfInBounds_toArray, List.set_cons_zero, List.set_cons_succ]
    refine take_by 1 21 (v := ?_) rfl rfl (by kernel_rfl) (by kernel_rfl) (by kernel_rfl) (fun _ _ _ h => h) (Or.inl ⟨by rfl, ?_⟩) (by assumption) ?_
    rotate_left
    · (intro w hSw; (try dsimp only at hSw); go_simp; try with_reducible rfl)
    try simp only [List.setIfInBounds_toArray, List.set_cons_zero, List.set_cons_succ]
    refine take_by 2 22 (v := ?_) rfl rfl (by kernel_rfl) (by kernel_rfl) (by kernel_rfl) (fun _ _ _ h => h) (Or.inl ⟨by rfl, ?_⟩) (by assumption) ?_
    rotate_left
    · (intro w hSw; (try dsimp only at hSw); go_simp; try with_reducible rfl)
    try simp only [List.setIfInBounds_toArray, List.set_cons_zero, List.set_cons_succ]
    refine take_by 3 23 (v := ?_) rfl rfl (by kernel_rfl) (by kernel_rfl) (by kernel_rfl) (fun _ _ _ h => h) (Or.inl ⟨by rfl, ?_⟩) (by assumption) ?_
    rotate_left
    · (intro w hSw; (try dsimp only at hSw); go_simp; try with_reducible rfl)
    try simp only [List.setIfInBounds_toArray, List.set_cons_zero, List.set_cons_succ]
    refine take_by 4 24 (v := ?_) rfl rfl (by kernel_rfl) (by kernel_rfl) (by kernel_rfl) (fun _ _ _ h => h) (Or.inl ⟨by rfl, ?_⟩) (by assumption) ?_
    rotate_left
    · (intro w hSw; (try dsimp only at hSw); go_simp; try with_reducible rfl)
    try simp only [List.setIfInBounds_toArray, List.set_cons_zero, List.set_cons_succ]
    refine take_by 5 25 (v := ?_) rfl rfl (by kernel_rfl) (by kernel_rfl) (by kernel_rfl) (fun _ _ _ h => h) (Or.inl ⟨by rfl, ?_⟩) (by assumption) ?_
    rotate_left
    · (intro w hSw; (try dsimp only at hSw); go_simp; try with_reducible rfl)
    try simp only [List.setIfInBounds_toArray, List.set_cons_zero, List.set_cons_succ]
    refine take_by 6 26 (v := ?_) rfl rfl (by kernel_rfl) (by kernel_rfl) (by kernel_rfl) (fun _ _ _ h => h) (Or.inl ⟨by rfl, ?_⟩) (by assumption) ?_
    rotate_left
    · (intro w hSw; (try dsimp only at hSw); go_simp; try with_reducible rfl)
    try simp only [List.setIfInBounds_toArray, List.set_cons_zero, List.set_cons_succ]
    refine take_by 7 27 (v := ?_) rfl rfl (by kernel_rfl) (by kernel_rfl) (by kernel_rfl) (fun _ _ _ h => h) (Or.inl ⟨by rfl, ?_⟩) (by assumption) ?_
    rotate_left
    · (intro w hSw; (try dsimp only at hSw); go_simp; try with_reducible rfl)
    try simp only [List.setIfInBounds_toArray, List.set_cons_zero, List.set_cons_succ]
    refine take_by 8 28 (v := ?_) rfl rfl (by kernel_rfl) (by kernel_rfl) (by kernel_rfl) (fun _ _ _ h => h) (Or.inl ⟨by rfl, ?_⟩) (by assumption) ?_
    rotate_left
    · (intro w hSw; (try dsimp only at hSw); go_simp; try with_reducible rfl)
    try simp only [List.setIfInBounds_toArray, List.set_cons_zero, List.set_cons_succ]
    refine take_by 9 29 (v := ?_) rfl rfl (by kernel_rfl) (by kernel_rfl) (by kernel_rfl) (fun _ _ _ h => h) (Or.inl ⟨by rfl, ?_⟩) (by assumption) ?_
    rotate_left
    · (intro w hSw; (try dsimp only at hSw); go_simp; try with_reducible rfl)
    try simp only [List.setIfInBounds_toArray, List.set_cons_zero, List.set_cons_succ]
    refine take_by 10 30 (v := ?_) rfl rfl (by kernel_rfl) (by kernel_rfl) (by kernel_rfl) (fun _ _ _ h => h) (Or.inl ⟨by rfl, ?_⟩) (by assumption) ?_
    rotate_left
    · (intro w hSw; (try dsimp only at hSw); go_simp; try with_reducible rfl)
    try simp only [List.setIfInBounds_toArray, List.set_cons_zero, List.set_cons_succ]
    refine wpAnyH_ready (rs := [11]) (by kernel_rfl) (by simp) ?_
    refine AllReadyH.cons rfl (fun K hK => ?_) AllReadyH.nil
    refine wp_loadIt rfl (.tmp 30) rfl MD.out HNX.out.1 rfl ?_
    refine hK.out _ _ (MD.out.hq.cell (i := 2) rfl) (fun _ => ?_)
    clear hK K
    try simp only [Act.put, List.getElem_toArray, List.getElem_cons_succ, List.getElem_cons_zero, List.setIfInBounds_toArray, List.set_cons_zero, List.set_cons_succ]
    refine take_by 12 32 (v := ?_) rfl rfl (by kernel_rfl) (by kernel_rfl) (by kernel_rfl) (fun _ _ _ h => h) (Or.inl ⟨by rfl, ?_⟩) (by assumption) ?_
    rotate_left
    · (intro w hSw; (try dsimp only at hSw); go_simp; try with_reducible rfl)
    try simp only [List.setIfInBounds_toArray, List.set_cons_zero, List.set_cons_succ]
    refine wpAnyH_ready (rs := [13]) (by kernel_rfl) (by simp) ?_
    refine AllReadyH.cons rfl (fun K hK => ?_) AllReadyH.nil
    refine wp_storeIt rfl (.tmp 32) (.tmp 31) rfl MD.out (HNX.out.2) (at_ h n) rfl rfl KD.out (.inl (by simp)) ?_
    intro wa ma ka za ba
    have Ma := hx ma
    have Za := hx za
    have Ba := hx ba
    have Xa := hx ka
    have hh := ma.hq.cell (i := 2) rfl
    simp only [List.length_set] at hh
    clear ma ka za ba
    refine hK.out _ _ hh (fun _ => ?_)
    clear hK K hh
    try simp only [Act.put, List.getElem_toArray, List.getElem_cons_succ, List.getElem_cons_zero, List.setIfInBounds_toArray, List.set_cons_zero, List.set_cons_succ]
    refine wpAnyH_done (by kernel_rfl) ?_ _
    go_wp2_with fail
    go_meet
    exact ⟨rfl, Ma.out, Ba.out _ _ _ (by omega) B4.out.drew, Ba.out _ _ _ (by omega) B5.out.drew, Xa.out⟩
  case rest =>
    obtain ⟨rfl, m1, hB4, hB5, hk1⟩ := hcut
    clear c2 MD KD M2 B4 B5 K2 B2K M1 K1 B1
    have d2 := m1.hq.cell (i := 2) rfl
    rw [List.length_set] at d2
    have d2' : wc.cell? ⟨q, 2, none⟩ = some (.slice (some ⟨g, 0, none⟩) h.length cap) := d2
    have f2 := m1.hq.free
    have m1' := m1
    rw [← HN1.out] at m1'
    have m2 := Qm.cut i HI.out m1' n HN1.out
    have e4 := hB4.set_ne (a := ⟨q, 2, none⟩) (by simp; omega) (.slice (some ⟨g, 0, none⟩) n cap)
    have e5 := hB5.set_ne (a := ⟨q, 2, none⟩) (by simp; omega) (.slice (some ⟨g, 0, none⟩) n cap)
    have hk2 : Kept [q, g] w (wc.setCell ⟨q, 2, none⟩ (.slice (some ⟨g, 0, none⟩) n cap)) := (hk1.mono (by intro x hx; left; simp at hx; simp [hx])).setCell (.inl (by simp)) _
    have hlen1 := cut_len h i
    have HT := hx (show takeL h i = if i < h.length - 1 then upL (downL ((h.set i (at_ h (h.length - 1))).take (h.length - 1)) i) i else (h.set i (at_ h (h.length - 1))).take (h.length - 1) from rfl)
    generalize (h.set i (at_ h (h.length - 1))).take (h.length - 1) = h1 at *
    have HL1 := hx hlen1
    have M2 := hx m2
    have K2 := hx hk2
    have E4 := hx e4
    have E5 := hx e5
    clear d2 m1 m1' m2 hB4 hB5 hk1 e4 e5 hk2 hlen1
    by_cases hlt : i < n
    · have hlt' : (i : Int) < (n : Int) := by omega
      have HT2 := hx (show takeL h i = upL (downL h1 i) i by rw [HT.out, if_pos (by rw [HN1.out]; exact hlt)])
      have hl1 : i < h1.length := by rw [HL1.out, HN1.out]; exact hlt
      have hb1 : h1.length ≤ 1000000 := by rw [HL1.out]; omega
      have hl2 : i < (downL h1 i).length := by rw [down_len h1.length _ _ (by omega)]; exact hl1
      have hb2 : (downL h1 i).length ≤ 1000000 := by rw [down_len h1.length _ _ (by omega)]; exact hb1
      go_wp2_with fail
      refine (down_any q g cap i room turns h1 _ _ M2.out hl1 hb1).mono ?_
      rintro e w3 ⟨rfl, m3, hk3⟩
      clear d2' f2
      go_wp2_with fail
      refine (up_any q g cap i room turns _ _ _ m3 hl2 hb2).mono ?_
      rintro e w4 ⟨rfl, m4, hk4⟩
      rw [← HT2.out] at m4
      have hk24 : Kept [g] (wc.setCell ⟨q, 2, none⟩ (.slice (some ⟨g, 0, none⟩) n cap)) w4 := hk3.trans1 hk4
      have hk04 : Kept [q, g] w w4 := K2.out.trans hk24 (fun _ h => h) (by intro x hx; left; simp at hx; simp [hx])
      have b4 := hk24.blk E4.out (by simp; omega)
      have b5 := hk24.blk E5.out (by simp; omega)
      clear m3 hk3 hk4 hk24
      go_wp2_with (first
        | (refine load_blk rfl 110 (.tmp 5) rfl (w.heap.size + 1) rfl 110 _ _ b5 Tryz.underlying110 rfl infoIt ?_)
        | (refine store_blk rfl 110 (.tmp 4) (.tmp 51) rfl w.heap.size rfl 110 _ (itc (at_ h i)) rfl b4 rfl infoIt (itc_one _) ?_; intro w5 hb5 hk5; have HB5 := hx hb5; have HK5 := hx hk5; clear hb5 hk5))
      exact bodyPost_ret (ret_blk rfl _ w.heap.size _ _ _ rfl HB5.out Tryz.underlying110 rfl infoIt) rfl ⟨rfl, m4.frame HK5.out (by simp; omega) (by simp; omega), hk04.trans HK5.out (fun _ h => h) (by intro x hx; right; simp at hx; omega)⟩
    · have hlt' : ¬ (i : Int) < (n : Int) := by omega
      have HT2 := hx (show takeL h i = h1 by rw [HT.out, if_neg (by rw [HN1.out]; exact hlt)])
      have m4 := M2.out
      rw [← HT2.out] at m4
      have M4 := hx m4
      clear m4
      go_wp2_with (first
        | (refine load_blk rfl 110 (.tmp 5) rfl (w.heap.size + 1) rfl 110 _ _ E5.out Tryz.underlying110 rfl infoIt ?_)
        | (refine store_blk rfl 110 (.tmp 4) (.tmp 51) rfl w.heap.size rfl 110 _ (itc (at_ h i)) rfl E4.out rfl infoIt (itc_one _) ?_; intro w5 hb5 hk5; have HB5 := hx hb5; have HK5 := hx hk5; clear hb5 hk5))
      exact bodyPost_ret (ret_blk rfl _ w.heap.size _ _ _ rfl HB5.out Tryz.underlying110 rfl infoIt) rfl ⟨rfl, M4.out.frame HK5.out (by simp; omega) (by simp; omega), K2.out.trans HK5.out (fun _ h => h) (by intro x hx; right; simp at hx; omega)⟩
end Go.Proofs.YtgdofgckjkmhjaaGreat.Qd
namespace Go.Proofs.YtgdofgckjkmhjaaGreat.Qd
open Go Go.RowKit
section
variable {P : Program} {w : World}
theorem step_app_at {ops : Array Oper} {o : Oper} {a : Act} {K : Act → World → Prop} {Q : Exit → Act → World → Prop} {E : Prop} (hgd : o.guard = none) (s x : Operand) (t : TypeId)
    (ho : o.op = .call { callee := .builtin .append, args := #[s, x], argTypes := #[t, t] })
    (base : Nat) (e : TypeId) (z : Value) (size bytes : Nat) (hinfo : (P.info? e).map (fun i => (i.zero, i.size, i.bytes)) = some (some z, size, bytes)) (ht : P.underlying t = some (.slice e))
    (hzs : z.cells.size = size) (hsz : 0 < size)
    (v : Value) (n : Nat) (xs : List Value) (hs : a.eval s = v) (hown : w.ownsRow base e size v n xs)
    (ad : Addr) (m c : Nat) (news : List Value) (hx : a.eval x = .slice (some ad) m c) (hl : news.length = m * size) (hnews : ∀ j u, news[j]? = some u → w.cell? (ad.add j) = some u) (h1 : ∀ u ∈ news, u.oneCell' = true)
    (h63 : n + m ≤ maxLen) (hbytes : (n + m) * bytes ≤ 140737488355328) (hbase : base ≤ w.heap.size)
    (h : ∀ v' w', w'.ownsRow base e size v' (n + m) (xs ++ news) → w.grownBy w' v.ownBlock → (v'.ownBlock = v.ownBlock ∨ v'.ownBlock = some w.heap.size) → K (a.put o.dst v') w') : if Region.wanted o (yielded ops a.tmps) = true then Oper.wp P o a w K Q else E := by
  have hw : Region.wanted o (yielded ops a.tmps) = true := by simp [Region.wanted, hgd]
  rw [if_pos hw]
  obtain ⟨i, hi, hz0, hz1, hz2⟩ := info_parts hinfo
  obtain ⟨v', w', hrun, r1, r2, _, r4⟩ := run_append_own_at (P := P) w base t o.type e i z size bytes ht hi hz0 hz1 hz2 hzs hsz v n xs hown ad m c news hl hnews h1 h63 hbytes hbase
  unfold Oper.wp execOp
  simp only [ho, resolve, invoke, builtin, Sem.run_bind, Sem.run_pure, Result.andThen_ok, List.map_toArray, List.map_cons, List.map_nil, hs, hx, hrun]
  exact h v' w' r1 r2 r4
end
theorem foldl_set : ∀ (vs : List Value) (cs : Array Value) (o : Nat), o + vs.length = cs.size →
    ((vs.zipIdx o).foldl (fun cs (x : Value × Nat) => cs.setIfInBounds x.2 x.1) cs).toList = cs.toList.take o ++ vs
  | [], cs, o, h => by
    simp only [List.zipIdx_nil, List.foldl_nil, List.append_nil]
    rw [List.take_of_length_le (by simp at h ⊢; omega)]
  | v :: vs, cs, o, h => by
    simp only [List.length_cons] at h
    rw [List.zipIdx_cons, List.foldl_cons, foldl_set vs _ (o + 1) (by simp; omega)]
    simp only [Array.toList_setIfInBounds]
    rw [List.take_add_one, List.take_set_of_le (by omega), List.getElem?_set_self (by simp; omega)]
    simp
theorem fill_one (n : Nat) (vs : List Value) (B : Array Value) (hv : vs.length = n) (hB : B.size = n) : Instr.fill (fun i => some (i * n, n)) B [(0, .agg vs.toArray)] = some vs.toArray := by
  unfold Instr.fill
  simp only [Nat.zero_mul, Value.cells, Nat.zero_add]
  rw [if_neg (by simp [hv, hB])]
  unfold Instr.fill
  congr 1
  apply Array.toList_inj.1
  have h := foldl_set vs B 0 (by omega)
  simp only [List.take_zero, List.nil_append] at h
  refine Eq.trans ?_ h
  simp
theorem own_slice {w : World} {base size : Nat} {e : TypeId} {v : Value} {n : Nat} {xs : List Value} (h : w.ownsRow base e size v n xs) : ∃ a c, v = .slice a n c := by
  rcases h.2 with ⟨rfl, rfl⟩ | ⟨g, cap, cur, rfl, _⟩
  · exact ⟨_, _, rfl⟩
  · exact ⟨_, _, rfl⟩
theorem own_kept3 {w w2 : World} {base size : Nat} {e : TypeId} {v : Value} {n : Nat} {xs : List Value} (h : w.ownsRow base e size v n xs) (hk : ∀ g cs, v.ownBlock = some g → w.heap[g]? = some (.cells cs e (0, 0)) → w2.heap[g]? = w.heap[g]?) : w2.ownsRow base e size v n xs := by
  refine ⟨h.1, ?_⟩
  rcases h.2 with hn | ⟨g, cap, cur, rfl, hb, hg, rest⟩
  · exact .inl hn
  · exact .inr ⟨g, cap, cur, rfl, hb, (hk g cur rfl hg).trans hg, rest⟩
theorem ret_blk2 {P : Program} {w : World} {fn : Func} {p q : Tmp} {ty : TypeId} (h : fn.results = #[.cell p ty, .tmp q]) (tmps : Array Value) (g : Nat) (T : TypeId) (xs : List Value) (v : Value) (d : TypeDesc)
    (hp : tmps.getD p undef = .pointer (some ⟨g, 0, none⟩)) (hq : tmps.getD q undef = v) (hb : Blk w g xs T)
    (hu : P.underlying ty = some d) (hd : (match d with | .struct _ | .array _ _ => true | _ => false) = true) (hi : (P.info? ty).map (·.size) = some xs.length) :
    (results fn tmps).run P w = .ok (.tuple #[.agg xs.toArray, v]) w := by
  have hp' : tmps[p]?.getD undef = .pointer (some ⟨g, 0, none⟩) := by simpa using hp
  have hq' : tmps[q]?.getD undef = v := by simpa using hq
  simp [results, h, hp', hq', asAddr, run_loadVar_row w g T ty xs.toArray (0, 0) d hb hu hd (by simpa using hi)]
theorem infoIt3 : (Tryz.prog.info? 110).map (fun i => (i.zero, i.size, i.bytes)) = some (some (.agg (itc it0).toArray), 13, 104) := by kernel_rfl
theorem builtIt (rank turn : Int) (x : Dv) : Tryz.prog.built 110 [(0, .int .i64 rank), (1, .int .i64 turn), (2, .agg (dvl x).toArray)] = some (itc ⟨rank, turn, x⟩).toArray := by kernel_rfl
theorem yieldsIf_build {P : Program} {ops : Array Oper} {S : World → Prop} {op : Oper} {a : Act} (hw : Region.wanted op (yielded ops a.tmps) = true) (t : TypeId) (parts : Array (Nat × Operand)) (ho : op.op = .build t parts) (cells : Array Value) (l : List (Nat × Value)) (hl : (parts.map fun (i, x) => (i, a.eval x)).toList = l)
    (hf : P.built t l = some cells) : YieldsIf P ops S op (.agg cells) a :=
  .inl ⟨hw, fun w _ => by
    subst hl
    unfold execOp
    simp only [ho, Sem.run_bind, run_build w t _ cells hf, Result.andThen_ok, Sem.run_pure]⟩
theorem step_bs {w : World} {ops : Array Oper} {o : Oper} {a : Act} {K : Act → World → Prop} {Q : Exit → Act → World → Prop} {E : Prop} (hgd : o.guard = none) (x : Operand) (ho : o.op = .buildSlice 106 1 #[(0, x)])
    (z : It) (hx : a.eval x = .agg (itc z).toArray) (hK : ∀ W', Blk W' w.heap.size (itc z) 110 → Kept [] w W' → K (a.put o.dst (.slice (some ⟨w.heap.size, 0, none⟩) 1 1)) W') : if Region.wanted o (yielded ops a.tmps) = true then o.wp Tryz.prog a w K Q else E := by
  obtain ⟨i, hi, hz0, hz1, hz2⟩ := info_parts infoIt3
  refine step_of hgd (wp_buildSlice _ 110 1 _ ho (itc z).toArray i _ Tryz.underlying106 hi hz0 (by omega) (by omega) ?_ (hK _ (Blk.new w _ _) ((Kept.refl _ _).alloc _)))
  have e1 : (#[((0 : Nat), x)].map fun (i, x) => (i, a.eval x)).toList = [(0, .agg (itc z).toArray)] := by simp [hx]
  rw [e1, hz1]
  exact fill_one 13 (itc z) _ rfl (by simp)
/-- A queue, whatever its slice is. -/
structure Qs (w : World) (q : Nat) (v : Value) (room turns : Int) (h : List It) : Prop where
  hq : Blk w q [.int .i64 room, .int .i64 turns, v] 108
  own : w.ownsRow 0 110 13 v h.length (cel h)
  ne : v.ownBlock ≠ some q
theorem Qs.toQm {w : World} {q : Nat} {v : Value} {room turns : Int} {h : List It} (s : Qs w q v room turns h) (h0 : 0 < h.length) :
    ∃ g cap rest, v = .slice (some ⟨g, 0, none⟩) h.length cap ∧ Qm w q g cap room turns h rest := by
  obtain ⟨hl, hr⟩ := s.own
  rcases hr with ⟨_, hn⟩ | ⟨g, cap, cur, rfl, _, hg, hn, hc, hs, ht⟩
  · omega
  · have hcur : cel h ++ cur.toList.drop (h.length * 13) = cur.toList := by rw [← ht, List.take_append_drop]
    refine ⟨g, cap, cur.toList.drop (h.length * 13), rfl, s.hq, ?_, hn, hc, ?_, ?_⟩
    · unfold Blk; rw [hcur]; exact hg
    · rw [hcur]; simpa using hs
    · rintro rfl; exact s.ne rfl
theorem Qm.toQs {w : World} {q g cap : Nat} {room turns : Int} {h : List It} {rest : List Value} (m : Qm w q g cap room turns h rest) : Qs w q (.slice (some ⟨g, 0, none⟩) h.length cap) room turns h := by
  have hl := cel_len h
  refine ⟨m.hq, ⟨by omega, .inr ⟨g, cap, (cel h ++ rest).toArray, rfl, Nat.zero_le _, m.hg, m.hl, m.hcap, by simpa using m.hrest, ?_⟩⟩, ?_⟩
  · simp only
    rw [List.take_left' (by omega)]
  · simp [Value.ownBlock]; exact Ne.symm m.hne
theorem Qs.new {w : World} {q : Nat} {room : Int} (hb : Blk w q [.int .i64 room, .int .i64 0, .slice none 0 0] 108) : Qs w q (.slice none 0 0) room 0 [] :=
  ⟨hb, World.ownsRow_nil _ _ _ 13, by simp [Value.ownBlock]⟩
set_option maxHeartbeats 800000 in
theorem len_any (q : Nat) (v : Value) (room turns : Int) (h : List It) (w : World) (s : Qs w q v room turns h) :
    Calls Tryz.prog 24 #[.pointer (some ⟨q, 0, none⟩)] w fun e w' => e = .returned (.int .i64 h.length) ∧ w = w' := by
  have c2 := s.hq.cell (i := 2) rfl
  rcases s.own with ⟨hl, ⟨rfl, hn⟩ | ⟨g, cap, cur, rfl, _, _, _, hc, _⟩⟩
  · have HN := hx hn
    clear hn hl s
    go_enter Tryz.func24, Tryz.ntmps24
    go_wp2
    go_ret
    exact ⟨by rw [HN.out]; rfl, rfl⟩
  · clear hl s
    go_enter Tryz.func24, Tryz.ntmps24
    go_wp2
    go_ret
    exact ⟨rfl, rfl⟩
theorem newsB {w : World} {g : Nat} {xs : List Value} {T : TypeId} (hb : Blk w g xs T) : ∀ j u, xs[j]? = some u → w.cell? ((⟨g, 0, none⟩ : Addr).add j) = some u := by
  intro j u hj
  rw [Addr.add_mid, Nat.zero_add]
  exact hb.cell hj
theorem own_lt {w : World} {base : Nat} {T : TypeId} {s n g : Nat} {v : Value} {xs : List Value} (h : w.ownsRow base T s v n xs) (hg : v.ownBlock = some g) : g < w.heap.size := (h.lt g hg).2
theorem Blk.kept2 {w w' : World} {q : Nat} {a b v : Value} {T : TypeId} (hb : Blk w q [a, b, v] T) (hk : Kept [] w w') : w'.cell? ⟨q, 2, none⟩ = some v := (hk.blk hb (by simp)).cell (i := 2) rfl
theorem Blk.drew2 {w : World} {q : Nat} {a b v : Value} {T : TypeId} (hb : Blk w q [a, b, v] T) : w.drew.cell? ⟨q, 2, none⟩ = some v := hb.drew.cell (i := 2) rfl
theorem own_some {w : World} {T : TypeId} {v : Value} {n : Nat} {xs : List Value} (h : w.ownsRow 0 T 13 v (n + 1) xs) : ∃ g c, v = .slice (some ⟨g, 0, none⟩) (n + 1) c := by
  rcases h with ⟨_, ⟨_, hn⟩ | ⟨g, cap, cur, rfl, _⟩⟩
  · omega
  · exact ⟨g, cap, rfl⟩
theorem cel_snoc (h : List It) (x : It) : cel (h ++ [x]) = cel h ++ itc x := by simp [cel]
theorem push_fin {w1 W w2 : World} {q gb cb : Nat} {v : Value} {room turns : Int} {h : List It} {x : It} (hq : Blk w1 q [.int .i64 room, .int .i64 turns, v] 108) (hne : v.ownBlock ≠ some q)
    (hk : Kept [] w1 W) (hg : W.grownBy w2 v.ownBlock) (ho : w2.ownsRow 0 110 13 (.slice (some ⟨gb, 0, none⟩) (h.length + 1) cb) (h.length + 1) (cel h ++ itc x))
    (ha : (Value.slice (some ⟨gb, 0, none⟩) (h.length + 1) cb).ownBlock = v.ownBlock ∨ (Value.slice (some ⟨gb, 0, none⟩) (h.length + 1) cb).ownBlock = some W.heap.size) :
    Qs (w2.setCell ⟨q, 2, none⟩ (.slice (some ⟨gb, 0, none⟩) (h.length + 1) cb)) q (.slice (some ⟨gb, 0, none⟩) (h.length + 1) cb) room turns (h ++ [x]) ∧
    Kept (q :: v.ownBlock.toList) w1 (w2.setCell ⟨q, 2, none⟩ (.slice (some ⟨gb, 0, none⟩) (h.length + 1) cb)) ∧
    ((Value.slice (some ⟨gb, 0, none⟩) (h.length + 1) cb).ownBlock = v.ownBlock ∨ ∃ g, (Value.slice (some ⟨gb, 0, none⟩) (h.length + 1) cb).ownBlock = some g ∧ w1.heap.size ≤ g) := by
  have hs := hk.size
  have hlt := hq.lt
  have hk2 : Kept v.ownBlock.toList W w2 := (Kept.refl _ _).grown hg (fun k e => .inl (by simp [e]))
  have hb := hk2.blk (hk.blk hq (by simp)) (by simp; exact hne)
  have hneq : (Value.slice (some ⟨gb, 0, none⟩) (h.length + 1) cb).ownBlock ≠ some q := by
    rcases ha with h1 | h1
    · rw [h1]; exact hne
    · rw [h1]; intro e; simp only [Option.some.injEq] at e; omega
  refine ⟨⟨hb.set 2 _, ?_, hneq⟩, ?_, ?_⟩
  · rw [cel_snoc]
    have e : (h ++ [x]).length = h.length + 1 := by simp
    rw [e]
    refine World.ownsRow.kept (row := some q) ho ⟨rfl, rfl, rfl, by simp [World.setCell], fun k hk hn => Below.heap_setCell _ _ _ _ (fun e => hn (congrArg some e))⟩ ?_
    exact .inr hneq
  · refine Kept.setCell ?_ (.inl (by simp)) _
    refine (hk.mono (cs := q :: v.ownBlock.toList) (by simp)).trans hk2 (fun _ h => h) (fun x hx => .inl (by simp at hx; simp [hx]))
  · rcases ha with h1 | h1
    · exact .inl h1
    · exact .inr ⟨_, h1, hs⟩
theorem kept_qg {bs : List Nat} {w w5 w6 : World} {q g : Nat} (h : Kept (q :: bs) w w5) (k : Kept [q, g] w5 w6) (hg : g ∈ q :: bs ∨ w.heap.size ≤ g) : Kept (q :: bs) w w6 :=
  h.trans k (fun _ h => h) (fun x hx => by
    simp only [List.mem_cons, List.not_mem_nil, or_false] at hx
    rcases hx with rfl | rfl
    · exact .inl (by simp)
    · exact hg)
theorem fieldIt (x : It) (w : World) : (Instr.field 110 (.agg (itc x).toArray) 2).run Tryz.prog w = .ok (.agg (dvl x.v).toArray) w := by kernel_rfl
/-- What a push leaves. -/
def PushP (w : World) (q : Nat) (v : Value) (room turns : Int) (h : List It) (x : It) (e : Ending) (w' : World) : Prop :=
  ∃ v', (if room < ((addL h x).length : Int) then e = .returned (.tuple #[.agg (dvl (at_ (addL h x) (lastK (addL h x) (addL h x).length)).v).toArray, .bool true]) ∧ Qs w' q v' room turns (takeL (addL h x) (lastK (addL h x) (addL h x).length)) else e = .returned (.tuple #[.agg (dvl dv0).toArray, .bool false]) ∧ Qs w' q v' room turns (addL h x)) ∧
    Kept (q :: v.ownBlock.toList) w w' ∧ (v'.ownBlock = v.ownBlock ∨ ∃ g, v'.ownBlock = some g ∧ w.heap.size ≤ g)
end Go.Proofs.YtgdofgckjkmhjaaGreat.Qd
