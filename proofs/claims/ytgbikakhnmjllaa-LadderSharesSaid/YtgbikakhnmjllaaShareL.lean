import Derived.Test.YtgbikakhnmjllaaShareW
namespace Go.Proofs.Ytgbikakhnmjllaa
open Go Go.RowKit
set_option maxRecDepth 100000 in
set_option maxHeartbeats 6400000 in
theorem law_shares (a : Option Addr) (len cap : Nat) (ms : List Int) (w : World) (hP : Plys w a len cap ms) :
    Calls Try.prog 6 #[.slice a len cap] w fun e w' => e = .returned (.bool true) ∧ Kept [] w w' := by
  by_cases hbig : 60 < len
  · have hbi : (60 : Int) < (len : Int) := by omega
    clear hP
    go_enter Try.func6, Try.ntmps6
    go_wp2_with fail
    refine (lawake_any _).mono ?_
    rintro e w1 ⟨rfl, rfl⟩
    go_wp2
    go_ret
    exact ⟨rfl, Kept.refl _ _⟩
  · have hbi : ¬ (60 : Int) < (len : Int) := by omega
    have HSH := hx (share_any a len cap ms w hP (by omega))
    have HP := hx hP
    have HBD := hx (smM_bd ms)
    have HGE := hx (smM_ge ms len hP.hfit)
    have HFT := hx hP.hfit
    have HOK := hx (fun i (hi : i < len) (hs : 0 < smM ms len) => prt_ok (max 0 (ms.getD i 0)) (smM ms len) (by omega) (smM_ge ms len hP.hfit i hi) hs)
    have HL0 := hx (show len = 0 → smM ms len = 0 by rintro rfl; rfl)
    clear hP hbig
    go_enter Try.func6, Try.ntmps6
    go_wp2_with fail
    refine (lawake_any _).mono ?_
    rintro e w1 ⟨rfl, rfl⟩
    go_wp2_with fail
    refine HSH.out.mono ?_
    rintro e w2 ⟨⟨v, rfl, hv⟩, hk2⟩
    have HV := hx hv
    have HK2 := hx hk2
    clear hv hk2 HSH
    go_wp2
    go_loopw [4, 5] (fun sv iv wr => ∃ i : Nat, i ≤ len ∧ iv = .int .i64 i ∧ sv = .int .i64 (smM ms i) ∧ Kept [] w2 wr) (fun _ iv _ => len - (intOf iv).toNat)
    case atStart => exact ⟨0, by omega, rfl, rfl, Kept.refl _ _⟩
    case round =>
      obtain ⟨i, hi, rfl, rfl, hk⟩ := hrel
      have HK := hx hk
      clear hk
      by_cases hlt : i < len
      · have hli : (i : Int) < (len : Int) := by omega
        obtain ⟨b, off, cs, rfl, hcl, hc1, hone, hr⟩ := (HP.out.kept (HK2.out.trans0 HK.out)).hcell i hlt
        have c1 := hr 1 _ hc1
        have hft := HFT.out i hlt
        have hbd := HBD.out i
        have HFS := hx (show Fits (smM ms i) by have h := hbd.1; have g := hbd.2; unfold Fits; omega)
        have HS := hx (show hold (smM ms i + max 0 (ms.getD i 0)) = smM ms (i + 1) from rfl)
        generalize smM ms i = S at *
        generalize ms.getD i 0 = y at *
        have HF := hx hft
        clear hr hcl hc1 hone hft hbd
        by_cases hy : 0 < y
        · have e : max 0 y = y := by omega
          have HW := hx (fun w => radd_any S y w HFS.out HF.out)
          rw [e] at HS
          rw [HS.out] at HW
          clear e
          go_wp2_with fail
          refine (HW.out _).mono ?_
          rintro e w3 ⟨rfl, hk3⟩
          have HK3 := hx (HK.out.trans0 hk3)
          clear hk3 HK
          go_wp2
          go_roundw
          case rel => exact ⟨i + 1, by omega, by go_num, rfl, HK3.out⟩
          case measure => simp [intOf] <;> omega
        · by_cases hy0 : y = 0
          · subst hy0
            have e : max 0 (0 : Int) = 0 := by omega
            have HW := hx (fun w => radd_any S 0 w HFS.out (by unfold Fits; omega))
            rw [e] at HS
            rw [HS.out] at HW
            clear e hy
            go_wp2_with fail
            refine (HW.out _).mono ?_
            rintro e w3 ⟨rfl, hk3⟩
            have HK3 := hx (HK.out.trans0 hk3)
            clear hk3 HK
            go_wp2
            go_roundw
            case rel => exact ⟨i + 1, by omega, by go_num, rfl, HK3.out⟩
            case measure => simp [intOf] <;> omega
          · have e : max 0 y = 0 := by omega
            have HW := hx (fun w => radd_any S 0 w HFS.out (by unfold Fits; omega))
            have hy3 : y < 0 := by omega
            rw [e] at HS
            rw [HS.out] at HW
            clear e hy hy0
            go_wp2_with fail
            refine (HW.out _).mono ?_
            rintro e w3 ⟨rfl, hk3⟩
            have HK3 := hx (HK.out.trans0 hk3)
            clear hk3 HK
            go_wp2
            go_roundw
            case rel => exact ⟨i + 1, by omega, by go_num, rfl, HK3.out⟩
            case measure => simp [intOf] <;> omega
      · obtain rfl : i = len := by omega
        rcases HV.out with ⟨h0, rfl⟩ | ⟨hpos, ho⟩
        · rw [h0]
          have HK3 := hx (HK2.out.trans0 HK.out)
          clear h0
          go_wp2
          go_ret
          exact ⟨rfl, HK3.out⟩
        · have hlen : 0 < i := by
            rcases Nat.eq_zero_or_pos i with h | h
            · have := HL0.out h; omega
            · exact h
          obtain ⟨g, cp, rfl, hg, _⟩ := ho.form hlen
          have HO := hx (fun k (hk : k < i) => show wr.cell? ⟨g, k, none⟩ = some (.int .i64 (prt ms (smM ms i) k)) by
            rw [HK.out.cell (p := ⟨g, k, none⟩) (by have h := (ho.lt g rfl).2; exact h) (by simp), ho.cellAt k (by omega)]
            exact tab_get hk)
          have hs0 : (smM ms i == 0) = false := by simp; omega
          have hsb := HBD.out i
          have HPOS := hx hpos
          have HOK2 := hx (fun k (hk : k < i) => HOK.out k hk hpos)
          have HPT := hx (show ∀ k, prt ms (smM ms i) k = max 0 (ms.getD k 0) * 65536 / smM ms i from fun k => rfl)
          have HK3 := hx (HK2.out.trans0 HK.out)
          clear ho HK HOK HL0 HV HGE hpos
          generalize hSS : smM ms i = S at *
          clear hSS HBD
          have HFS := hx (show Fits S by have h := hsb.1; have g := hsb.2; unfold Fits; omega)
          go_wp2
          go_loopw [6] (fun iv w3 => ∃ k : Nat, k ≤ i ∧ iv = .int .i64 k ∧ Kept [] wr w3) (fun iv _ => i - (intOf iv).toNat)
          case atStart => exact ⟨0, by omega, rfl, Kept.refl _ _⟩
          case round =>
            obtain ⟨k, hk, rfl, hkr⟩ := hrel
            have HK := hx hkr
            clear hkr
            by_cases hlt : k < i
            · have hli : (k : Int) < (i : Int) := by omega
              obtain ⟨b, off, cs, rfl, hcl, hc1, hone, hr⟩ := (HP.out.kept (HK3.out.trans0 HK.out)).hcell k hlt
              have c1 := hr 1 _ hc1
              have co : wr.cell? ⟨g, k, none⟩ = some (.int .i64 (prt ms S k)) := by
                have h := HO.out k hlt
                rw [HK.out.cell (p := ⟨g, k, none⟩) (block_lt_of_cell h) (by simp)]
                exact h
              have hok := HOK2.out k hlt
              have hft := HFT.out k hlt
              rw [← HPT.out k] at hok
              generalize prt ms S k = l at *
              generalize ms.getD k 0 = y at *
              obtain ⟨l0, l1, l2, l3⟩ := hok
              have HF := hx hft
              have HKw := hx (HK3.out.trans0 HK.out)
              clear hr hcl hc1 hone hft
              rcases (show 0 < y ∨ y = 0 ∨ y < 0 by omega) with hy | hy | hy
              · have e : max 0 y = y := by omega
                rw [e] at l2 l3
                have A1 := hx (fun w => above_any l S y 65536 (by unfold Fits; omega) HFS.out HF.out (by unfold Fits; omega) w)
                have A2 := hx (fun w => above_any (l + 1) S y 65536 (by unfold Fits; omega) HFS.out HF.out (by unfold Fits; omega) w)
                rw [show decide (y * 65536 < l * S) = false by simp; omega] at A1
                rw [show decide (y * 65536 < (l + 1) * S) = true by simp; omega] at A2
                clear e l2 l3
                go_wp2_with fail
                refine (A1.out _).mono ?_
                rintro e w4 ⟨rfl, hk4⟩
                have c4 : w4.cell? ⟨g, k, none⟩ = some (.int .i64 l) := by
                  rw [hk4.cell (p := ⟨g, k, none⟩) (block_lt_of_cell co) (by simp)]
                  exact co
                have HK4 := hx (HK.out.trans0 hk4)
                clear hk4 co c1
                go_wp2_with fail
                refine (A2.out _).mono ?_
                rintro e w5 ⟨rfl, hk5⟩
                have HK5 := hx (HK4.out.trans0 hk5)
                clear hk5 c4
                go_wp2
                go_roundw
                case rel => exact ⟨k + 1, by omega, by go_num, HK5.out⟩
                case measure => simp [intOf] <;> omega
              · subst hy
                have e : max 0 (0 : Int) = 0 := by omega
                rw [e] at l2 l3
                have A1 := hx (fun w => above_any l S 0 65536 (by unfold Fits; omega) HFS.out (by unfold Fits; omega) (by unfold Fits; omega) w)
                have A2 := hx (fun w => above_any (l + 1) S 0 65536 (by unfold Fits; omega) HFS.out (by unfold Fits; omega) (by unfold Fits; omega) w)
                rw [show decide (0 * 65536 < l * S) = false by simp; omega] at A1
                rw [show decide (0 * 65536 < (l + 1) * S) = true by simp; omega] at A2
                clear e l2 l3
                go_wp2_with fail
                refine (A1.out _).mono ?_
                rintro e w4 ⟨rfl, hk4⟩
                have c4 : w4.cell? ⟨g, k, none⟩ = some (.int .i64 l) := by
                  rw [hk4.cell (p := ⟨g, k, none⟩) (block_lt_of_cell co) (by simp)]
                  exact co
                have HK4 := hx (HK.out.trans0 hk4)
                clear hk4 co c1
                go_wp2_with fail
                refine (A2.out _).mono ?_
                rintro e w5 ⟨rfl, hk5⟩
                have HK5 := hx (HK4.out.trans0 hk5)
                clear hk5 c4
                go_wp2
                go_roundw
                case rel => exact ⟨k + 1, by omega, by go_num, HK5.out⟩
                case measure => simp [intOf] <;> omega
              · have e : max 0 y = 0 := by omega
                rw [e] at l2 l3
                have A1 := hx (fun w => above_any l S 0 65536 (by unfold Fits; omega) HFS.out (by unfold Fits; omega) (by unfold Fits; omega) w)
                have A2 := hx (fun w => above_any (l + 1) S 0 65536 (by unfold Fits; omega) HFS.out (by unfold Fits; omega) (by unfold Fits; omega) w)
                rw [show decide (0 * 65536 < l * S) = false by simp; omega] at A1
                rw [show decide (0 * 65536 < (l + 1) * S) = true by simp; omega] at A2
                clear e l2 l3
                go_wp2_with fail
                refine (A1.out _).mono ?_
                rintro e w4 ⟨rfl, hk4⟩
                have c4 : w4.cell? ⟨g, k, none⟩ = some (.int .i64 l) := by
                  rw [hk4.cell (p := ⟨g, k, none⟩) (block_lt_of_cell co) (by simp)]
                  exact co
                have HK4 := hx (HK.out.trans0 hk4)
                clear hk4 co c1
                go_wp2_with fail
                refine (A2.out _).mono ?_
                rintro e w5 ⟨rfl, hk5⟩
                have HK5 := hx (HK4.out.trans0 hk5)
                clear hk5 c4
                go_wp2
                go_roundw
                case rel => exact ⟨k + 1, by omega, by go_num, HK5.out⟩
                case measure => simp [intOf] <;> omega
            · obtain rfl : k = i := by omega
              have HKw := hx (HK3.out.trans0 HK.out)
              go_wp2
              go_ret
              exact ⟨rfl, HKw.out⟩
end Go.Proofs.Ytgbikakhnmjllaa
