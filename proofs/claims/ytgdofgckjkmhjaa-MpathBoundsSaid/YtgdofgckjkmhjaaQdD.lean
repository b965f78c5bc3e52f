/- The queue's down. Printed by k/gen_qdd.py. -/
import Derived.Test.YtgdofgckjkmhjaaQdM
namespace Go.Proofs.Ytgdofgckjkmhjaa.Qd
open Go Go.RowKit
set_option linter.unusedSimpArgs false in
set_option maxRecDepth 100000 in
set_option maxHeartbeats 12800000 in
theorem down_any (q g cap i0 : Nat) (room turns : Int) (h0 : List It) (rest : List Value) (w : World) (m0 : Qm w q g cap room turns h0 rest) (hi0 : i0 < h0.length) (hb : h0.length ≤ 1000000) :
    Calls Try.prog 42 #[.pointer (some ⟨q, 0, none⟩), .int .i64 i0] w fun e w' => e = .returned (.tuple #[]) ∧ Qm w' q g cap room turns (downL h0 i0) rest ∧ Kept [g] w w' := by
  go_enter Try.func42, Try.ntmps42
  go_wp2
  go_loopw [1] (fun iv wr => ∃ (i : Nat) (h : List It), iv = .int .i64 i ∧ i < h.length ∧ h.length = h0.length ∧ downL h i = downL h0 i0 ∧ Qm wr q g cap room turns h rest ∧ Kept [g] w wr) (fun iv _ => h0.length - (intOf iv).toNat)
  case atStart => exact ⟨i0, h0, rfl, hi0, rfl, rfl, m0, Kept.refl _ _⟩
  case round =>
    obtain ⟨i, h, rfl, hi, hlen, hup, m, hk⟩ := hrel
    have hib : (i : Int) < 1000000 := by omega
    have hlb : (h.length : Int) ≤ 1000000 := by omega
    have hib0 : (0 : Int) ≤ (i : Int) := by omega
    have HL := hx hlen
    have HU := hx hup
    clear hlen hup m0
    have hc2 : wr.cell? ⟨q, 2, none⟩ = some (.slice (some ⟨g, 0, none⟩) h.length cap) := m.hq.cell (i := 2) rfl
    by_cases hend : 2 * i + 1 < h.length
    · obtain ⟨k, hk0⟩ : ∃ k, k = 2 * i + 1 := ⟨_, rfl⟩
      have hkI : 2 * (i : Int) + 1 = (k : Int) := by omega
      have t1 : ¬ (h.length : Int) ≤ (k : Int) := by omega
      have hkl : k < h.length := by omega
      have hki := hx (show kid h i = if k + 1 < h.length ∧ ahB (at_ h (k + 1)) (at_ h k) = true then k + 1 else k by rw [hk0]; rfl)
      have hK := hx hk0
      have hkb : (k : Int) ≤ 1000000 := by omega
      have hkn : (0 : Int) ≤ (k : Int) := by omega
      have hkl2 : (k : Int) < (h.length : Int) := by omega
      clear hk0
      go_upto_region 2 with fail
      clear hkI
      go_cut [40] (fun s40 wx => s40 = .bool (decide (k + 1 < h.length) && ahB (at_ h (k + 1)) (at_ h k)) ∧ Kept [] wr wx)
      case first =>
        by_cases h2 : k + 1 < h.length
        · have D2 := hx (show decide (k + 1 < h.length) = true by simp [h2])
          have HSK := hx (fun (w3 : World) (hk3 : Kept [] wr w3) => show (fun w3 => w3.cell? ⟨q, 2, none⟩ = some (.slice (some ⟨g, 0, none⟩) h.length cap) ∧ w3.rangeAt g ((k + 1) * 13) (itc (at_ h (k + 1))) ∧ w3.rangeAt g ((k) * 13) (itc (at_ h (k)))) w3 from ⟨(m.kept hk3).hq.cell (i := 2) rfl, (m.kept hk3).at (k + 1) h2, (m.kept hk3).at k hkl⟩)
          have HAH := hx (fun W => ahead_any (at_ h (k + 1)) (at_ h k) W)
          have j1 : (k : Int) + 1 < (h.length : Int) := by omega
          have j2 : decide ((k : Int) + 1 < (h.length : Int)) = true := by simp; omega
          have j3 := D2.out
          have jw : IntKind.i64.wrap ((k : Int) + 1) = (k : Int) + 1 := by rw [IntKind.wrap_i64]; omega
          have jn : (0 : Int) ≤ (k : Int) + 1 := by omega
          have jt : ((k : Int) + 1).toNat = k + 1 := by omega
          refine wp_region_held_drew (S := (fun w3 => w3.cell? ⟨q, 2, none⟩ = some (.slice (some ⟨g, 0, none⟩) h.length cap) ∧ w3.rangeAt g ((k + 1) * 13) (itc (at_ h (k + 1))) ∧ w3.rangeAt g ((k) * 13) (itc (at_ h (k))))) (by kernel_rfl) (HSK.out _ (Kept.drew (Kept.refl [] wr))) (fun hHeld => ?_)
          refine take_by 0 15 (v := ?_) rfl rfl (by kernel_rfl) (by kernel_rfl) (by kernel_rfl) (fun _ _ _ h => h) (Or.inl ⟨by rfl, ?_⟩) (by assumption) ?_
          rotate_left
          · (intro w hSw; (try dsimp only at hSw); go_simp; try with_reducible rfl)
          try simp only [List.setIfInBounds_toArray, List.set_cons_zero, List.set_cons_succ]
          refine take_by 1 16 (v := ?_) rfl rfl (by kernel_rfl) (by kernel_rfl) (by kernel_rfl) (fun _ _ _ h => h) (Or.inl ⟨by rfl, ?_⟩) (by assumption) ?_
          rotate_left
          · (intro w hSw; (try dsimp only at hSw); go_simp; try with_reducible rfl)
          try simp only [List.setIfInBounds_toArray, List.set_cons_zero, List.set_cons_succ]
          refine take_by 2 17 (v := ?_) rfl rfl (by kernel_rfl) (by kernel_rfl) (by kernel_rfl) (fun _ _ _ h => h) (Or.inl ⟨by rfl, ?_⟩) (by assumption) ?_
          rotate_left
          · (intro w hSw; (try dsimp only at hSw); go_simp; try with_reducible rfl)
          try simp only [List.setIfInBounds_toArray, List.set_cons_zero, List.set_cons_succ]
          refine take_by 3 18 (v := ?_) rfl rfl (by kernel_rfl) (by kernel_rfl) (by kernel_rfl) (fun _ _ _ h => h) (Or.inl ⟨by rfl, ?_⟩) (by assumption) ?_
          rotate_left
          · (intro w hSw; (try dsimp only at hSw); go_simp; try with_reducible rfl)
          try simp only [List.setIfInBounds_toArray, List.set_cons_zero, List.set_cons_succ]
          refine take_by 4 19 (v := ?_) rfl rfl (by kernel_rfl) (by kernel_rfl) (by kernel_rfl) (fun _ _ _ h => h) (Or.inl ⟨by rfl, ?_⟩) (by assumption) ?_
          rotate_left
          · (intro w hSw; (try dsimp only at hSw); go_simp; try with_reducible rfl)
          try simp only [List.setIfInBounds_toArray, List.set_cons_zero, List.set_cons_succ]
          refine take_by 5 20 (v := ?_) rfl rfl (by kernel_rfl) (by kernel_rfl) (by kernel_rfl) (fun _ _ _ h => h) (Or.inl ⟨by rfl, ?_⟩) (by assumption) ?_
          rotate_left
          · (intro w hSw; (try dsimp only at hSw); go_simp; try with_reducible rfl)
          try simp only [List.setIfInBounds_toArray, List.set_cons_zero, List.set_cons_succ]
          refine take_by 6 21 (v := ?_) rfl rfl (by kernel_rfl) (by kernel_rfl) (by kernel_rfl) (fun _ _ _ h => h) (Or.inl ⟨by rfl, ?_⟩) (by assumption) ?_
          rotate_left
          · (intro w hSw; (try dsimp only at hSw); go_simp; try with_reducible rfl)
          try simp only [List.setIfInBounds_toArray, List.set_cons_zero, List.set_cons_succ]
          refine take_by 7 22 (v := ?_) rfl rfl (by kernel_rfl) (by kernel_rfl) (by kernel_rfl) (fun _ _ _ h => h) (Or.inl ⟨by rfl, ?_⟩) (by assumption) ?_
          rotate_left
          · (intro w hSw; (try dsimp only at hSw); go_simp; try with_reducible rfl)
          try simp only [List.setIfInBounds_toArray, List.set_cons_zero, List.set_cons_succ]
          refine take_by 8 23 (v := ?_) rfl rfl (by kernel_rfl) (by kernel_rfl) (by kernel_rfl) (fun _ _ _ h => h) (Or.inl ⟨by rfl, ?_⟩) (by assumption) ?_
          rotate_left
          · (intro w hSw; (try dsimp only at hSw); go_simp; try with_reducible rfl)
          try simp only [List.setIfInBounds_toArray, List.set_cons_zero, List.set_cons_succ]
          refine take_by 9 24 (v := ?_) rfl rfl (by kernel_rfl) (by kernel_rfl) (by kernel_rfl) (fun _ _ _ h => h) (Or.inl ⟨by rfl, ?_⟩) (by assumption) ?_
          rotate_left
          · (intro w hSw; (try dsimp only at hSw); go_simp; try with_reducible rfl)
          try simp only [List.setIfInBounds_toArray, List.set_cons_zero, List.set_cons_succ]
          refine take_by 10 25 (v := ?_) rfl rfl (by kernel_rfl) (by kernel_rfl) (by kernel_rfl) (fun _ _ _ h => h) (Or.inl ⟨by rfl, ?_⟩) (by assumption) ?_
          rotate_left
          · (intro w hSw; (try dsimp only at hSw); go_simp; try with_reducible rfl)
          try simp only [List.setIfInBounds_toArray, List.set_cons_zero, List.set_cons_succ]
          refine take_by 11 26 (v := ?_) rfl rfl (by kernel_rfl) (by kernel_rfl) (by kernel_rfl) (fun _ _ _ h => h) (Or.inl ⟨by rfl, ?_⟩) (by assumption) ?_
          rotate_left
          · (intro w hSw; (try dsimp only at hSw); go_simp; try with_reducible rfl)
          try simp only [List.setIfInBounds_toArray, List.set_cons_zero, List.set_cons_succ]
          refine take_by 12 27 (v := ?_) rfl rfl (by kernel_rfl) (by kernel_rfl) (by kernel_rfl) (fun _ _ _ h => h) (Or.inl ⟨by rfl, ?_⟩) (by assumption) ?_
          rotate_left
          · (intro w hSw; (try dsimp only at hSw); go_simp; try with_reducible rfl)
          try simp only [List.setIfInBounds_toArray, List.set_cons_zero, List.set_cons_succ]
          refine take_by 13 28 (v := ?_) rfl rfl (by kernel_rfl) (by kernel_rfl) (by kernel_rfl) (fun _ _ _ h => h) (Or.inl ⟨by rfl, ?_⟩) (by assumption) ?_
          rotate_left
          · (intro w hSw; (try dsimp only at hSw); go_simp; try with_reducible rfl)
          try simp only [List.setIfInBounds_toArray, List.set_cons_zero, List.set_cons_succ]
          refine take_by 14 29 (v := ?_) rfl rfl (by kernel_rfl) (by kernel_rfl) (by kernel_rfl) (fun _ _ _ h => h) (Or.inl ⟨by rfl, ?_⟩) (by assumption) ?_
          rotate_left
          · (intro w hSw; (try dsimp only at hSw); go_simp; try with_reducible rfl)
          try simp only [List.setIfInBounds_toArray, List.set_cons_zero, List.set_cons_succ]
          refine take_by 15 30 (v := ?_) rfl rfl (by kernel_rfl) (by kernel_rfl) (by kernel_rfl) (fun _ _ _ h => h) (Or.inl ⟨by rfl, ?_⟩) (by assumption) ?_
          rotate_left
          · (intro w hSw; (try dsimp only at hSw); go_simp; try with_reducible rfl)
          try simp only [List.setIfInBounds_toArray, List.set_cons_zero, List.set_cons_succ]
          refine take_by 16 31 (v := .agg (itc (at_ h (k + 1))).toArray) rfl rfl (by kernel_rfl) (by kernel_rfl) (by kernel_rfl) (fun _ _ _ h => h) (yieldsIf_load_mid (by rfl) 81 (.tmp 30) rfl g ((k + 1) * 13) rfl (itc (at_ h (k + 1))) _ (fun _ hS => hS.2.1) Try.underlying81 rfl (by kernel_rfl)) (by assumption) ?_
          try simp only [List.setIfInBounds_toArray, List.set_cons_zero, List.set_cons_succ]
          refine take_by 17 32 (v := ?_) rfl rfl (by kernel_rfl) (by kernel_rfl) (by kernel_rfl) (fun _ _ _ h => h) (Or.inl ⟨by rfl, ?_⟩) (by assumption) ?_
          rotate_left
          · (intro w hSw; (try dsimp only at hSw); go_simp; try with_reducible rfl)
          try simp only [List.setIfInBounds_toArray, List.set_cons_zero, List.set_cons_succ]
          refine take_by 18 33 (v := ?_) rfl rfl (by kernel_rfl) (by kernel_rfl) (by kernel_rfl) (fun _ _ _ h => h) (Or.inl ⟨by rfl, ?_⟩) (by assumption) ?_
          rotate_left
          · (intro w hSw; (try dsimp only at hSw); go_simp; try with_reducible rfl)
          try simp only [List.setIfInBounds_toArray, List.set_cons_zero, List.set_cons_succ]
          refine take_by 19 34 (v := ?_) rfl rfl (by kernel_rfl) (by kernel_rfl) (by kernel_rfl) (fun _ _ _ h => h) (Or.inl ⟨by rfl, ?_⟩) (by assumption) ?_
          rotate_left
          · (intro w hSw; (try dsimp only at hSw); go_simp; try with_reducible rfl)
          try simp only [List.setIfInBounds_toArray, List.set_cons_zero, List.set_cons_succ]
          refine take_by 20 35 (v := ?_) rfl rfl (by kernel_rfl) (by kernel_rfl) (by kernel_rfl) (fun _ _ _ h => h) (Or.inl ⟨by rfl, ?_⟩) (by assumption) ?_
          rotate_left
          · (intro w hSw; (try dsimp only at hSw); go_simp; try with_reducible rfl)
          try simp only [List.setIfInBounds_toArray, List.set_cons_zero, List.set_cons_succ]
          refine take_by 21 36 (v := ?_) rfl rfl (by kernel_rfl) (by kernel_rfl) (by kernel_rfl) (fun _ _ _ h => h) (Or.inl ⟨by rfl, ?_⟩) (by assumption) ?_
          rotate_left
          · (intro w hSw; (try dsimp only at hSw); go_simp; try with_reducible rfl)
          try simp only [List.setIfInBounds_toArray, List.set_cons_zero, List.set_cons_succ]
          refine take_by 22 37 (v := ?_) rfl rfl (by kernel_rfl) (by kernel_rfl) (by kernel_rfl) (fun _ _ _ h => h) (Or.inl ⟨by rfl, ?_⟩) (by assumption) ?_
          rotate_left
          · (intro w hSw; (try dsimp only at hSw); go_simp; try with_reducible rfl)
          try simp only [List.setIfInBounds_toArray, List.set_cons_zero, List.set_cons_succ]
          refine take_by 23 38 (v := .agg (itc (at_ h (k))).toArray) rfl rfl (by kernel_rfl) (by kernel_rfl) (by kernel_rfl) (fun _ _ _ h => h) (yieldsIf_load_mid (by rfl) 81 (.tmp 37) rfl g ((k) * 13) rfl (itc (at_ h (k))) _ (fun _ hS => hS.2.2) Try.underlying81 rfl (by kernel_rfl)) (by assumption) ?_
          try simp only [List.setIfInBounds_toArray, List.set_cons_zero, List.set_cons_succ]
          refine wpAnyH_ready (rs := [24]) (by kernel_rfl) (by simp) ?_
          refine AllReadyH.cons rfl (fun K hK => ?_) AllReadyH.nil
          go_simp
          (go_at_call 41; refine (HAH.out _).mono ?_; rintro e w4 ⟨rfl, hk4⟩; have K4 := hx (show Kept [] wr w4 from (Kept.drew (Kept.refl [] wr)).trans0 hk4); clear hk4)
          refine hK.out _ _ (HSK.out _ K4.out) (fun hHeld => ?_)
          clear hK K
          try simp only [Act.put, List.setIfInBounds_toArray, List.set_cons_zero, List.set_cons_succ]
          refine take_by 25 40 (v := ?_) rfl rfl (by kernel_rfl) (by kernel_rfl) (by kernel_rfl) (fun _ _ _ h => h) (Or.inl ⟨by rfl, ?_⟩) (by assumption) ?_
          rotate_left
          · (intro w hSw; (try dsimp only at hSw); go_simp; try with_reducible rfl)
          try simp only [List.setIfInBounds_toArray, List.set_cons_zero, List.set_cons_succ]
          refine wpAnyH_done (by kernel_rfl) ?_ _
          go_wp2_with fail
          go_meet
          exact ⟨Eq.trans rfl (congrArg Value.bool (show ahB (at_ h (k + 1)) (at_ h k) = (decide (k + 1 < h.length) && ahB (at_ h (k + 1)) (at_ h k)) by rw [D2.out, Bool.true_and])), K4.out⟩
        · have D2 := hx (show decide (k + 1 < h.length) = false by simp [h2])
          have d3 : decide ((k : Int) + 1 < (h.length : Int)) = false := by simp; omega
          have d4 := D2.out
          have jw : IntKind.i64.wrap ((k : Int) + 1) = (k : Int) + 1 := by rw [IntKind.wrap_i64]; omega
          go_quiet (fail)
          all_goals (go_wp2_with fail)
          all_goals (go_meet; exact ⟨Eq.trans rfl (congrArg Value.bool (show false = (decide (k + 1 < h.length) && ahB (at_ h (k + 1)) (at_ h k)) by rw [D2.out, Bool.false_and])), (Kept.refl _ _).drewN _⟩)
      case rest =>
        obtain ⟨rfl, hkx⟩ := hcut
        have m' := m.kept hkx
        have hk' := hk.trans0 hkx
        clear m hk hkx hc2
        obtain ⟨j, hj⟩ : ∃ j, j = kid h i := ⟨_, rfl⟩
        have hjl : j < h.length := by rw [hj]; exact kid_lt h i hend
        have hji : i < j := by rw [hj]; exact kid_gt h i
        have hJ := hx hj
        clear hj
        go_upto_if 40 with fail
        go_cut [4] (fun s4 wx => s4 = .int .i64 j ∧ wx = wc)
        case first =>
          by_cases hb2 : k + 1 < h.length ∧ ahB (at_ h (k + 1)) (at_ h k) = true
          · have e0 : (decide (k + 1 < h.length) && ahB (at_ h (k + 1)) (at_ h k)) = true := by simp [hb2.1, hb2.2]
            have e1 := hx (show ((k : Int) + 1) = (j : Int) by rw [hJ.out, hki.out, if_pos hb2]; omega)
            rw [e0]
            clear hb2 e0
            go_wp2_with fail
            go_meet
            exact ⟨Eq.trans rfl (congrArg (Value.int .i64) e1.out), rfl⟩
          · have e0 : (decide (k + 1 < h.length) && ahB (at_ h (k + 1)) (at_ h k)) = false := by
              cases hbb : (decide (k + 1 < h.length) && ahB (at_ h (k + 1)) (at_ h k))
              · rfl
              · simp at hbb; exact absurd hbb hb2
            have e1 := hx (show (k : Int) = (j : Int) by rw [hJ.out, hki.out, if_neg hb2])
            rw [e0]
            clear hb2 e0
            go_wp2_with fail
            go_meet
            exact ⟨Eq.trans rfl (congrArg (Value.int .i64) e1.out), rfl⟩
        case rest =>
          obtain ⟨rfl, rfl⟩ := hcut
          have hjn : (j : Int) < (h.length : Int) := by omega
          have hin : (i : Int) < (h.length : Int) := by omega
          have hj0 : (0 : Int) ≤ (j : Int) := by omega
          have HSK := hx (fun (w3 : World) (hk3 : Kept [] wc w3) => show (fun w3 => w3.cell? ⟨q, 2, none⟩ = some (.slice (some ⟨g, 0, none⟩) h.length cap) ∧ w3.rangeAt g ((j) * 13) (itc (at_ h (j))) ∧ w3.rangeAt g ((i) * 13) (itc (at_ h (i)))) w3 from ⟨(m'.kept hk3).hq.cell (i := 2) rfl, (m'.kept hk3).at j hjl, (m'.kept hk3).at i hi⟩)
          have HAH := hx (fun W => ahead_any (at_ h j) (at_ h i) W)
          clear hkb hkn hkl2 t1
          go_upto_region 4 with fail
          go_cut [58] (fun s58 wx => s58 = .bool (!ahB (at_ h j) (at_ h i)) ∧ Kept [] wc wx)
          case first =>
            refine wp_region_held_drew (S := (fun w3 => w3.cell? ⟨q, 2, none⟩ = some (.slice (some ⟨g, 0, none⟩) h.length cap) ∧ w3.rangeAt g ((j) * 13) (itc (at_ h (j))) ∧ w3.rangeAt g ((i) * 13) (itc (at_ h (i))))) (by kernel_rfl) (HSK.out _ (Kept.drew (Kept.refl [] wc))) (fun hHeld => ?_)
            refine take_by 0 43 (v := ?_) rfl rfl (by kernel_rfl) (by kernel_rfl) (by kernel_rfl) (fun _ _ _ h => h) (Or.inl ⟨by rfl, ?_⟩) (by assumption) ?_
            rotate_left
            · (intro w hSw; (try dsimp only at hSw); go_simp; try with_reducible rfl)
            try simp only [List.setIfInBounds_toArray, List.set_cons_zero, List.set_cons_succ]
            refine take_by 1 44 (v := ?_) rfl rfl (by kernel_rfl) (by kernel_rfl) (by kernel_rfl) (fun _ _ _ h => h) (Or.inl ⟨by rfl, ?_⟩) (by assumption) ?_
            rotate_left
            · (intro w hSw; (try dsimp only at hSw); go_simp; try with_reducible rfl)
            try simp only [List.setIfInBounds_toArray, List.set_cons_zero, List.set_cons_succ]
            refine take_by 2 45 (v := ?_) rfl rfl (by kernel_rfl) (by kernel_rfl) (by kernel_rfl) (fun _ _ _ h => h) (Or.inl ⟨by rfl, ?_⟩) (by assumption) ?_
            rotate_left
            · (intro w hSw; (try dsimp only at hSw); go_simp; try with_reducible rfl)
            try simp only [List.setIfInBounds_toArray, List.set_cons_zero, List.set_cons_succ]
            refine take_by 3 46 (v := ?_) rfl rfl (by kernel_rfl) (by kernel_rfl) (by kernel_rfl) (fun _ _ _ h => h) (Or.inl ⟨by rfl, ?_⟩) (by assumption) ?_
            rotate_left
            · (intro w hSw; (try dsimp only at hSw); go_simp; try with_reducible rfl)
            try simp only [List.setIfInBounds_toArray, List.set_cons_zero, List.set_cons_succ]
            refine take_by 4 47 (v := ?_) rfl rfl (by kernel_rfl) (by kernel_rfl) (by kernel_rfl) (fun _ _ _ h => h) (Or.inl ⟨by rfl, ?_⟩) (by assumption) ?_
            rotate_left
            · (intro w hSw; (try dsimp only at hSw); go_simp; try with_reducible rfl)
            try simp only [List.setIfInBounds_toArray, List.set_cons_zero, List.set_cons_succ]
            refine take_by 5 48 (v := ?_) rfl rfl (by kernel_rfl) (by kernel_rfl) (by kernel_rfl) (fun _ _ _ h => h) (Or.inl ⟨by rfl, ?_⟩) (by assumption) ?_
            rotate_left
            · (intro w hSw; (try dsimp only at hSw); go_simp; try with_reducible rfl)
            try simp only [List.setIfInBounds_toArray, List.set_cons_zero, List.set_cons_succ]
            refine take_by 6 49 (v := .agg (itc (at_ h (j))).toArray) rfl rfl (by kernel_rfl) (by kernel_rfl) (by kernel_rfl) (fun _ _ _ h => h) (yieldsIf_load_mid (by rfl) 81 (.tmp 48) rfl g ((j) * 13) rfl (itc (at_ h (j))) _ (fun _ hS => hS.2.1) Try.underlying81 rfl (by kernel_rfl)) (by assumption) ?_
            try simp only [List.setIfInBounds_toArray, List.set_cons_zero, List.set_cons_succ]
            refine take_by 7 50 (v := ?_) rfl rfl (by kernel_rfl) (by kernel_rfl) (by kernel_rfl) (fun _ _ _ h => h) (Or.inl ⟨by rfl, ?_⟩) (by assumption) ?_
            rotate_left
            · (intro w hSw; (try dsimp only at hSw); go_simp; try with_reducible rfl)
            try simp only [List.setIfInBounds_toArray, List.set_cons_zero, List.set_cons_succ]
            refine take_by 8 51 (v := ?_) rfl rfl (by kernel_rfl) (by kernel_rfl) (by kernel_rfl) (fun _ _ _ h => h) (Or.inl ⟨by rfl, ?_⟩) (by assumption) ?_
            rotate_left
            · (intro w hSw; (try dsimp only at hSw); go_simp; try with_reducible rfl)
            try simp only [List.setIfInBounds_toArray, List.set_cons_zero, List.set_cons_succ]
            refine take_by 9 52 (v := ?_) rfl rfl (by kernel_rfl) (by kernel_rfl) (by kernel_rfl) (fun _ _ _ h => h) (Or.inl ⟨by rfl, ?_⟩) (by assumption) ?_
            rotate_left
            · (intro w hSw; (try dsimp only at hSw); go_simp; try with_reducible rfl)
            try simp only [List.setIfInBounds_toArray, List.set_cons_zero, List.set_cons_succ]
            refine take_by 10 53 (v := ?_) rfl rfl (by kernel_rfl) (by kernel_rfl) (by kernel_rfl) (fun _ _ _ h => h) (Or.inl ⟨by rfl, ?_⟩) (by assumption) ?_
            rotate_left
            · (intro w hSw; (try dsimp only at hSw); go_simp; try with_reducible rfl)
            try simp only [List.setIfInBounds_toArray, List.set_cons_zero, List.set_cons_succ]
            refine take_by 11 54 (v := ?_) rfl rfl (by kernel_rfl) (by kernel_rfl) (by kernel_rfl) (fun _ _ _ h => h) (Or.inl ⟨by rfl, ?_⟩) (by assumption) ?_
            rotate_left
            · (intro w hSw; (try dsimp only at hSw); go_simp; try with_reducible rfl)
            try simp only [List.setIfInBounds_toArray, List.set_cons_zero, List.set_cons_succ]
            refine take_by 12 55 (v := ?_) rfl rfl (by kernel_rfl) (by kernel_rfl) (by kernel_rfl) (fun _ _ _ h => h) (Or.inl ⟨by rfl, ?_⟩) (by assumption) ?_
            rotate_left
            · (intro w hSw; (try dsimp only at hSw); go_simp; try with_reducible rfl)
            try simp only [List.setIfInBounds_toArray, List.set_cons_zero, List.set_cons_succ]
            refine take_by 13 56 (v := .agg (itc (at_ h (i))).toArray) rfl rfl (by kernel_rfl) (by kernel_rfl) (by kernel_rfl) (fun _ _ _ h => h) (yieldsIf_load_mid (by rfl) 81 (.tmp 55) rfl g ((i) * 13) rfl (itc (at_ h (i))) _ (fun _ hS => hS.2.2) Try.underlying81 rfl (by kernel_rfl)) (by assumption) ?_
            try simp only [List.setIfInBounds_toArray, List.set_cons_zero, List.set_cons_succ]
            refine wpAnyH_ready (rs := [14]) (by kernel_rfl) (by simp) ?_
            refine AllReadyH.cons rfl (fun K hK => ?_) AllReadyH.nil
            go_simp
            (go_at_call 41; refine (HAH.out _).mono ?_; rintro e w4 ⟨rfl, hk4⟩; have K4 := hx (show Kept [] wc w4 from (Kept.drew (Kept.refl [] wc)).trans0 hk4); clear hk4)
            refine hK.out _ _ (HSK.out _ K4.out) (fun hHeld => ?_)
            clear hK K
            try simp only [Act.put, List.setIfInBounds_toArray, List.set_cons_zero, List.set_cons_succ]
            refine take_by 15 58 (v := ?_) rfl rfl (by kernel_rfl) (by kernel_rfl) (by kernel_rfl) (fun _ _ _ h => h) (Or.inl ⟨by rfl, ?_⟩) (by assumption) ?_
            rotate_left
            · (intro w hSw; (try dsimp only at hSw); go_simp; try with_reducible rfl)
            try simp only [List.setIfInBounds_toArray, List.set_cons_zero, List.set_cons_succ]
            refine wpAnyH_done (by kernel_rfl) ?_ _
            go_wp2_with fail
            go_meet
            exact ⟨rfl, K4.out⟩
          case rest =>
            obtain ⟨rfl, hkx⟩ := hcut
            have m2 := m'.kept hkx
            have hk2 := hk'.trans0 hkx
            have HEnd := hx hend
            have HB := hx (show i < h.length ∧ j < h.length ∧ i < j from ⟨hi, hjl, hji⟩)
            clear m' hk' hkx HSK HAH hend hkl hji hjl hi hib hlb hib0 hb hi0
            cases hc : ahB (at_ h j) (at_ h i)
            · have HC := hx hc
              clear hc
              go_wp2
              exact bodyPost_ret (results_none rfl _ _ _) rfl ⟨rfl, by rw [← HU.out, down_stop _ _ (hJ.out ▸ HC.out)]; exact m2, hk2⟩
            · have HC := hx hc
              clear hc
              have hji := HB.out.2.2
              have MD := hx (m2.kept (Kept.refl [] wc).drew)
              have KD := hx hk2.drew
              clear m2 hk2
              go_upto_region 5 with fail
              go_cut [1] (fun s1 wx => s1 = .int .i64 i ∧ Qm wx q g cap room turns (swapL h i j) rest ∧ Kept [g] w wx)
              case first =>
                refine wp_region_held_drew (S := (fun w3 => w3.cell? ⟨q, 2, none⟩ = some (.slice (some ⟨g, 0, none⟩) h.length cap))) (by kernel_rfl) (MD.out.hq.cell (i := 2) rfl) (fun hHeld => ?_)
                refine take_by 0 59 (v := ?_) rfl rfl (by kernel_rfl) (by kernel_rfl) (by kernel_rfl) (fun _ _ _ h => h) (Or.inl ⟨by rfl, ?_⟩) (by assumption) ?_
                rotate_left
                · (intro w hSw; (try dsimp only at hSw); go_simp; try with_reducible rfl)
                try simp only [List.setIfInBounds_toArray, List.set_cons_zero, List.set_cons_succ]
                refine take_by 1 60 (v := ?_) rfl rfl (by kernel_rfl) (by kernel_rfl) (by kernel_rfl) (fun _ _ _ h => h) (Or.inl ⟨by rfl, ?_⟩) (by assumption) ?_
                rotate_left
                · (intro w hSw; (try dsimp only at hSw); go_simp; try with_reducible rfl)
                try simp only [List.setIfInBounds_toArray, List.set_cons_zero, List.set_cons_succ]
                refine take_by 2 61 (v := ?_) rfl rfl (by kernel_rfl) (by kernel_rfl) (by kernel_rfl) (fun _ _ _ h => h) (Or.inl ⟨by rfl, ?_⟩) (by assumption) ?_
                rotate_left
                · (intro w hSw; (try dsimp only at hSw); go_simp; try with_reducible rfl)
                try simp only [List.setIfInBounds_toArray, List.set_cons_zero, List.set_cons_succ]
                refine take_by 3 62 (v := ?_) rfl rfl (by kernel_rfl) (by kernel_rfl) (by kernel_rfl) (fun _ _ _ h => h) (Or.inl ⟨by rfl, ?_⟩) (by assumption) ?_
                rotate_left
                · (intro w hSw; (try dsimp only at hSw); go_simp; try with_reducible rfl)
                try simp only [List.setIfInBounds_toArray, List.set_cons_zero, List.set_cons_succ]
                refine take_by 4 63 (v := ?_) rfl rfl (by kernel_rfl) (by kernel_rfl) (by kernel_rfl) (fun _ _ _ h => h) (Or.inl ⟨by rfl, ?_⟩) (by assumption) ?_
                rotate_left
                · (intro w hSw; (try dsimp only at hSw); go_simp; try with_reducible rfl)
                try simp only [List.setIfInBounds_toArray, List.set_cons_zero, List.set_cons_succ]
                refine take_by 5 64 (v := ?_) rfl rfl (by kernel_rfl) (by kernel_rfl) (by kernel_rfl) (fun _ _ _ h => h) (Or.inl ⟨by rfl, ?_⟩) (by assumption) ?_
                rotate_left
                · (intro w hSw; (try dsimp only at hSw); go_simp; try with_reducible rfl)
                try simp only [List.setIfInBounds_toArray, List.set_cons_zero, List.set_cons_succ]
                refine take_by 6 65 (v := ?_) rfl rfl (by kernel_rfl) (by kernel_rfl) (by kernel_rfl) (fun _ _ _ h => h) (Or.inl ⟨by rfl, ?_⟩) (by assumption) ?_
                rotate_left
                · (intro w hSw; (try dsimp only at hSw); go_simp; try with_reducible rfl)
                try simp only [List.setIfInBounds_toArray, List.set_cons_zero, List.set_cons_succ]
                refine take_by 7 66 (v := ?_) rfl rfl (by kernel_rfl) (by kernel_rfl) (by kernel_rfl) (fun _ _ _ h => h) (Or.inl ⟨by rfl, ?_⟩) (by assumption) ?_
                rotate_left
                · (intro w hSw; (try dsimp only at hSw); go_simp; try with_reducible rfl)
                try simp only [List.setIfInBounds_toArray, List.set_cons_zero, List.set_cons_succ]
                refine take_by 8 67 (v := ?_) rfl rfl (by kernel_rfl) (by kernel_rfl) (by kernel_rfl) (fun _ _ _ h => h) (Or.inl ⟨by rfl, ?_⟩) (by assumption) ?_
                rotate_left
                · (intro w hSw; (try dsimp only at hSw); go_simp; try with_reducible rfl)
                try simp only [List.setIfInBounds_toArray, List.set_cons_zero, List.set_cons_succ]
                refine take_by 9 68 (v := ?_) rfl rfl (by kernel_rfl) (by kernel_rfl) (by kernel_rfl) (fun _ _ _ h => h) (Or.inl ⟨by rfl, ?_⟩) (by assumption) ?_
                rotate_left
                · (intro w hSw; (try dsimp only at hSw); go_simp; try with_reducible rfl)
                try simp only [List.setIfInBounds_toArray, List.set_cons_zero, List.set_cons_succ]
                refine take_by 10 69 (v := ?_) rfl rfl (by kernel_rfl) (by kernel_rfl) (by kernel_rfl) (fun _ _ _ h => h) (Or.inl ⟨by rfl, ?_⟩) (by assumption) ?_
                rotate_left
                · (intro w hSw; (try dsimp only at hSw); go_simp; try with_reducible rfl)
                try simp only [List.setIfInBounds_toArray, List.set_cons_zero, List.set_cons_succ]
                refine take_by 11 70 (v := ?_) rfl rfl (by kernel_rfl) (by kernel_rfl) (by kernel_rfl) (fun _ _ _ h => h) (Or.inl ⟨by rfl, ?_⟩) (by assumption) ?_
                rotate_left
                · (intro w hSw; (try dsimp only at hSw); go_simp; try with_reducible rfl)
                try simp only [List.setIfInBounds_toArray, List.set_cons_zero, List.set_cons_succ]
                refine take_by 12 71 (v := ?_) rfl rfl (by kernel_rfl) (by kernel_rfl) (by kernel_rfl) (fun _ _ _ h => h) (Or.inl ⟨by rfl, ?_⟩) (by assumption) ?_
                rotate_left
                · (intro w hSw; (try dsimp only at hSw); go_simp; try with_reducible rfl)
                try simp only [List.setIfInBounds_toArray, List.set_cons_zero, List.set_cons_succ]
                refine take_by 13 72 (v := ?_) rfl rfl (by kernel_rfl) (by kernel_rfl) (by kernel_rfl) (fun _ _ _ h => h) (Or.inl ⟨by rfl, ?_⟩) (by assumption) ?_
                rotate_left
                · (intro w hSw; (try dsimp only at hSw); go_simp; try with_reducible rfl)
                try simp only [List.setIfInBounds_toArray, List.set_cons_zero, List.set_cons_succ]
                refine take_by 14 73 (v := ?_) rfl rfl (by kernel_rfl) (by kernel_rfl) (by kernel_rfl) (fun _ _ _ h => h) (Or.inl ⟨by rfl, ?_⟩) (by assumption) ?_
                rotate_left
                · (intro w hSw; (try dsimp only at hSw); go_simp; try with_reducible rfl)
                try simp only [List.setIfInBounds_toArray, List.set_cons_zero, List.set_cons_succ]
                refine take_by 15 74 (v := ?_) rfl rfl (by kernel_rfl) (by kernel_rfl) (by kernel_rfl) (fun _ _ _ h => h) (Or.inl ⟨by rfl, ?_⟩) (by assumption) ?_
                rotate_left
                · (intro w hSw; (try dsimp only at hSw); go_simp; try with_reducible rfl)
                try simp only [List.setIfInBounds_toArray, List.set_cons_zero, List.set_cons_succ]
                refine take_by 17 76 (v := ?_) rfl rfl (by kernel_rfl) (by kernel_rfl) (by kernel_rfl) (fun _ _ _ h => h) (Or.inl ⟨by rfl, ?_⟩) (by assumption) ?_
                rotate_left
                · (intro w hSw; (try dsimp only at hSw); go_simp; try with_reducible rfl)
                try simp only [List.setIfInBounds_toArray, List.set_cons_zero, List.set_cons_succ]
                refine take_by 18 77 (v := ?_) rfl rfl (by kernel_rfl) (by kernel_rfl) (by kernel_rfl) (fun _ _ _ h => h) (Or.inl ⟨by rfl, ?_⟩) (by assumption) ?_
                rotate_left
                · (intro w hSw; (try dsimp only at hSw); go_simp; try with_reducible rfl)
                try simp only [List.setIfInBounds_toArray, List.set_cons_zero, List.set_cons_succ]
                refine take_by 19 78 (v := ?_) rfl rfl (by kernel_rfl) (by kernel_rfl) (by kernel_rfl) (fun _ _ _ h => h) (Or.inl ⟨by rfl, ?_⟩) (by assumption) ?_
                rotate_left
                · (intro w hSw; (try dsimp only at hSw); go_simp; try with_reducible rfl)
                try simp only [List.setIfInBounds_toArray, List.set_cons_zero, List.set_cons_succ]
                refine take_by 20 79 (v := ?_) rfl rfl (by kernel_rfl) (by kernel_rfl) (by kernel_rfl) (fun _ _ _ h => h) (Or.inl ⟨by rfl, ?_⟩) (by assumption) ?_
                rotate_left
                · (intro w hSw; (try dsimp only at hSw); go_simp; try with_reducible rfl)
                try simp only [List.setIfInBounds_toArray, List.set_cons_zero, List.set_cons_succ]
                refine take_by 21 80 (v := ?_) rfl rfl (by kernel_rfl) (by kernel_rfl) (by kernel_rfl) (fun _ _ _ h => h) (Or.inl ⟨by rfl, ?_⟩) (by assumption) ?_
                rotate_left
                · (intro w hSw; (try dsimp only at hSw); go_simp; try with_reducible rfl)
                try simp only [List.setIfInBounds_toArray, List.set_cons_zero, List.set_cons_succ]
                refine take_by 22 81 (v := ?_) rfl rfl (by kernel_rfl) (by kernel_rfl) (by kernel_rfl) (fun _ _ _ h => h) (Or.inl ⟨by rfl, ?_⟩) (by assumption) ?_
                rotate_left
                · (intro w hSw; (try dsimp only at hSw); go_simp; try with_reducible rfl)
                try simp only [List.setIfInBounds_toArray, List.set_cons_zero, List.set_cons_succ]
                refine wpAnyH_ready (rs := [16, 23]) (by kernel_rfl) (by simp) ?_
                refine AllReadyH.cons rfl (fun K hK => ?_) (AllReadyH.cons rfl (fun K hK => ?_) AllReadyH.nil)
                · refine wp_loadIt rfl (.tmp 74) rfl MD.out HB.out.2.1 rfl ?_
                  refine hK.out _ _ (MD.out.hq.cell (i := 2) rfl) (fun _ => ?_)
                  clear hK K
                  try simp only [Act.put, List.getElem_toArray, List.getElem_cons_succ, List.getElem_cons_zero, List.setIfInBounds_toArray, List.set_cons_zero, List.set_cons_succ]
                  refine wpAnyH_ready (rs := [23]) (by kernel_rfl) (by simp) ?_
                  refine AllReadyH.cons rfl (fun K hK => ?_) AllReadyH.nil
                  refine wp_loadIt rfl (.tmp 81) rfl MD.out HB.out.1 rfl ?_
                  refine hK.out _ _ (MD.out.hq.cell (i := 2) rfl) (fun _ => ?_)
                  clear hK K
                  try simp only [Act.put, List.getElem_toArray, List.getElem_cons_succ, List.getElem_cons_zero, List.setIfInBounds_toArray, List.set_cons_zero, List.set_cons_succ]
                  refine take_by 24 83 (v := ?_) rfl rfl (by kernel_rfl) (by kernel_rfl) (by kernel_rfl) (fun _ _ _ h => h) (Or.inl ⟨by rfl, ?_⟩) (by assumption) ?_
                  rotate_left
                  · (intro w hSw; (try dsimp only at hSw); go_simp; try with_reducible rfl)
                  try simp only [List.setIfInBounds_toArray, List.set_cons_zero, List.set_cons_succ]
                  refine wpAnyH_ready (rs := [25]) (by kernel_rfl) (by simp) ?_
                  refine AllReadyH.cons rfl (fun K hK => ?_) AllReadyH.nil
                  refine wp_storeIt rfl (.tmp 83) (.tmp 75) rfl MD.out (HB.out.1) (at_ h (j)) rfl rfl KD.out (.inl (by simp)) ?_
                  intro wa ma ka za ba
                  have Ma := hx ma
                  have Za := hx za
                  have Ba := hx ba
                  have Xa := hx ka
                  have hh := ma.hq.cell (i := 2) rfl
                  simp only [List.length_set] at hh
                  clear ma ka za ba
                  refine hK.out _ _ hh (fun _ => ?_)
                  clear hK K hh
                  try simp only [Act.put, List.getElem_toArray, List.getElem_cons_succ, List.getElem_cons_zero, List.setIfInBounds_toArray, List.set_cons_zero, List.set_cons_succ]
                  refine take_by 26 84 (v := ?_) rfl rfl (by kernel_rfl) (by kernel_rfl) (by kernel_rfl) (fun _ _ _ h => h) (Or.inl ⟨by rfl, ?_⟩) (by assumption) ?_
                  rotate_left
                  · (intro w hSw; (try dsimp only at hSw); go_simp; try with_reducible rfl)
                  try simp only [List.setIfInBounds_toArray, List.set_cons_zero, List.set_cons_succ]
                  refine wpAnyH_ready (rs := [27]) (by kernel_rfl) (by simp) ?_
                  refine AllReadyH.cons rfl (fun K hK => ?_) AllReadyH.nil
                  refine wp_storeIt rfl (.tmp 84) (.tmp 82) rfl Ma.out (by rw [List.length_set]; exact HB.out.2.1) (at_ h (i)) rfl rfl Xa.out (.inl (by simp)) ?_
                  intro wb mb kb zb bb
                  have Mb := hx mb
                  have Zb := hx zb
                  have Bb := hx bb
                  have Xb := hx kb
                  have hh := mb.hq.cell (i := 2) rfl
                  simp only [List.length_set] at hh
                  clear mb kb zb bb
                  refine hK.out _ _ hh (fun _ => ?_)
                  clear hK K hh
                  try simp only [Act.put, List.getElem_toArray, List.getElem_cons_succ, List.getElem_cons_zero, List.setIfInBounds_toArray, List.set_cons_zero, List.set_cons_succ]
                  refine wpAnyH_done (by kernel_rfl) ?_ _
                  go_wp2_with fail
                  go_meet
                  exact ⟨rfl, Mb.out, Xb.out⟩
                · refine wp_loadIt rfl (.tmp 81) rfl MD.out HB.out.1 rfl ?_
                  refine hK.out _ _ (MD.out.hq.cell (i := 2) rfl) (fun _ => ?_)
                  clear hK K
                  try simp only [Act.put, List.getElem_toArray, List.getElem_cons_succ, List.getElem_cons_zero, List.setIfInBounds_toArray, List.set_cons_zero, List.set_cons_succ]
                  refine wpAnyH_ready (rs := [16]) (by kernel_rfl) (by simp) ?_
                  refine AllReadyH.cons rfl (fun K hK => ?_) AllReadyH.nil
                  refine wp_loadIt rfl (.tmp 74) rfl MD.out HB.out.2.1 rfl ?_
                  refine hK.out _ _ (MD.out.hq.cell (i := 2) rfl) (fun _ => ?_)
                  clear hK K
                  try simp only [Act.put, List.getElem_toArray, List.getElem_cons_succ, List.getElem_cons_zero, List.setIfInBounds_toArray, List.set_cons_zero, List.set_cons_succ]
                  refine take_by 24 83 (v := ?_) rfl rfl (by kernel_rfl) (by kernel_rfl) (by kernel_rfl) (fun _ _ _ h => h) (Or.inl ⟨by rfl, ?_⟩) (by assumption) ?_
                  rotate_left
                  · (intro w hSw; (try dsimp only at hSw); go_simp; try with_reducible rfl)
                  try simp only [List.setIfInBounds_toArray, List.set_cons_zero, List.set_cons_succ]
                  refine wpAnyH_ready (rs := [25]) (by kernel_rfl) (by simp) ?_
                  refine AllReadyH.cons rfl (fun K hK => ?_) AllReadyH.nil
                  refine wp_storeIt rfl (.tmp 83) (.tmp 75) rfl MD.out (HB.out.1) (at_ h (j)) rfl rfl KD.out (.inl (by simp)) ?_
                  intro wa ma ka za ba
                  have Ma := hx ma
                  have Za := hx za
                  have Ba := hx ba
                  have Xa := hx ka
                  have hh := ma.hq.cell (i := 2) rfl
                  simp only [List.length_set] at hh
                  clear ma ka za ba
                  refine hK.out _ _ hh (fun _ => ?_)
                  clear hK K hh
                  try simp only [Act.put, List.getElem_toArray, List.getElem_cons_succ, List.getElem_cons_zero, List.setIfInBounds_toArray, List.set_cons_zero, List.set_cons_succ]
                  refine take_by 26 84 (v := ?_) rfl rfl (by kernel_rfl) (by kernel_rfl) (by kernel_rfl) (fun _ _ _ h => h) (Or.inl ⟨by rfl, ?_⟩) (by assumption) ?_
                  rotate_left
                  · (intro w hSw; (try dsimp only at hSw); go_simp; try with_reducible rfl)
                  try simp only [List.setIfInBounds_toArray, List.set_cons_zero, List.set_cons_succ]
                  refine wpAnyH_ready (rs := [27]) (by kernel_rfl) (by simp) ?_
                  refine AllReadyH.cons rfl (fun K hK => ?_) AllReadyH.nil
                  refine wp_storeIt rfl (.tmp 84) (.tmp 82) rfl Ma.out (by rw [List.length_set]; exact HB.out.2.1) (at_ h (i)) rfl rfl Xa.out (.inl (by simp)) ?_
                  intro wb mb kb zb bb
                  have Mb := hx mb
                  have Zb := hx zb
                  have Bb := hx bb
                  have Xb := hx kb
                  have hh := mb.hq.cell (i := 2) rfl
                  simp only [List.length_set] at hh
                  clear mb kb zb bb
                  refine hK.out _ _ hh (fun _ => ?_)
                  clear hK K hh
                  try simp only [Act.put, List.getElem_toArray, List.getElem_cons_succ, List.getElem_cons_zero, List.setIfInBounds_toArray, List.set_cons_zero, List.set_cons_succ]
                  refine wpAnyH_done (by kernel_rfl) ?_ _
                  go_wp2_with fail
                  go_meet
                  exact ⟨rfl, Mb.out, Xb.out⟩
              case rest =>
                obtain ⟨rfl, m3, hk3⟩ := hcut
                clear MD KD
                go_wp2
                go_roundw
                case rel => exact ⟨j, swapL h i j, rfl, by rw [swap_len]; exact HB.out.2.1, by rw [swap_len]; exact HL.out, by rw [← HU.out, down_go h i HEnd.out (hJ.out ▸ HC.out), ← hJ.out], m3, hk3⟩
                case measure =>
                  have := HL.out
                  have := HB.out
                  simp [intOf] <;> omega
    · have t1 : (h.length : Int) ≤ 2 * (i : Int) + 1 := by omega
      go_wp2
      exact bodyPost_ret (results_none rfl _ _ _) rfl ⟨rfl, by rw [← HU.out, down_end _ _ hend]; exact m, hk⟩
end Go.Proofs.Ytgdofgckjkmhjaa.Qd
