/- The document's weights. -/
import Derived.Test.YtjgnngnknhkpmaaRefV
namespace Go.Proofs.Ytjgnngnknhkpmaa
open Go Go.RowKit
def upN (x j : Nat) (l : List Nat) : Nat → Nat
  | 0 => 1
  | i + 1 => if i = j then upN x j l i else mulR (upN x j l i) (x ^^^ l.getD i 0)
theorem upN_lt (x j : Nat) (l : List Nat) : ∀ i, upN x j l i < 256
  | 0 => by rw [upN]; omega
  | i + 1 => by
    rw [upN]
    split
    · exact upN_lt x j l i
    · exact mulR_lt _ _
def wgt (l : List Nat) (j x : Nat) : Nat := mulR (upN x j l l.length) (invR (upN (l.getD j 0) j l l.length))
theorem wgt_lt (l : List Nat) (j x : Nat) : wgt l j x < 256 := mulR_lt _ _
theorem up_pr (x j : Nat) (l : List Nat) (hx : x < 256) (hl : Oct l) : ∀ i, i ≤ l.length → toF (upN x j l i) * pr (toF x) j i ((plc l).drop i) = pr (toF x) j 0 (plc l)
  | 0, _ => by rw [upN, toF_one, F.one_mul, List.drop_zero]
  | i + 1, hi => by
    have ih := up_pr x j l hx hl i (by omega)
    have hd : (plc l).drop i = toF (l.getD i 0) :: (plc l).drop (i + 1) := by
      rw [List.drop_eq_getElem_cons (by rw [plc_len]; omega)]
      congr 1
      have h := plc_at l (i := i) (by omega)
      rw [List.getD_eq_getElem?_getD, List.getElem?_eq_getElem (by rw [plc_len]; omega)] at h
      exact h
    rw [hd, pr] at ih
    rw [upN]
    by_cases h : i = j
    · rw [if_pos h]
      rw [if_pos h] at ih
      exact ih
    · rw [if_neg h]
      rw [if_neg h, ← F.mul_assoc] at ih
      have hlo := hl.at i
      rw [mulR_gmul _ _ (upN_lt _ _ _ _) (Nat.xor_lt_two_pow (n := 8) hx hlo), toF_gmul _ _ (upN_lt _ _ _ _) (Nat.xor_lt_two_pow (n := 8) hx hlo), toF_xor _ _ hx hlo]
      exact ih
theorem wgt_wt (l : List Nat) (hl : Oct l) (hn : l.Nodup) (j x : Nat) (hj : j < l.length) (hx : x < 256) : toF (wgt l j x) = wt (plc l) j (toF x) := by
  have h1 := up_pr x j l hx hl l.length (Nat.le_refl _)
  have h2 := up_pr (l.getD j 0) j l (hl.at j) hl l.length (Nat.le_refl _)
  rw [List.drop_of_length_le (by rw [plc_len]; exact Nat.le_refl _), pr, F.mul_one] at h1 h2
  have hd := down_ne (plc_nodup hn hl) (j := j) (by rw [plc_len]; exact hj)
  rw [plc_at l hj, ← h2] at hd
  unfold wgt wt
  rw [mulR_gmul _ _ (upN_lt _ _ _ _) (invR_lt _), toF_gmul _ _ (upN_lt _ _ _ _) (invR_lt _), plc_at l hj, ← h1, ← h2]
  refine congrArg _ (F.ext' ?_)
  have h0 : upN (l.getD j 0) j l l.length ≠ 0 := fun g => hd (by rw [g, toF_zero])
  rw [toF_v (invR_lt _), F.inv_v, toF_v (upN_lt _ _ _ _)]
  unfold invR
  rw [if_neg h0]
set_option maxRecDepth 100000 in
set_option maxHeartbeats 8000000 in
theorem weight_any (a : Option Addr) (l : List Nat) (c j x : Nat) (w : World) (hI : In w a l) (hj : j < l.length) (hlo : Oct l) (hln : l.length ≤ 1000) (hx8 : x < 256) :
    Calls Try.prog 19 #[.slice a l.length c, .int .i64 j, .int .i64 x] w fun e w' => e = .returned (.int .u8 (wgt l j x : Nat)) ∧ Kept [] w w' := by
  have HI := hx hI
  obtain ⟨b, off, ha, cj⟩ := hI j hj
  subst ha
  have HC := hx (fun i (hi : i < l.length) => show w.cell? ⟨b, off + i, none⟩ = some (.int .i64 ((l.getD i 0 : Nat) : Int)) by
    obtain ⟨b2, o2, h1, h2⟩ := HI.out i hi
    simp only [Option.some.injEq, Addr.mk.injEq, and_true] at h1
    obtain ⟨rfl, rfl⟩ := h1
    exact h2)
  have HO := hx (fun i => hlo.at i)
  have HX := hx (fun p q (hp : p < 256) (hq : q < 256) => u8_xor_nat p q hp hq)
  have HM := hx (fun p q w (hp : p < 256) (hq : q < 256) => refmul_any p q w hp hq)
  have HV := hx (fun p w (hp : p < 256) => refinv_any p w hp)
  have HU := hx (fun x i => upN_lt x j l i)
  have HU1 := hx (fun x i (h : i = j) => show upN x j l (i + 1) = upN x j l i by rw [upN, if_pos h])
  have HU2 := hx (fun x i (h : ¬ i = j) => show upN x j l (i + 1) = mulR (upN x j l i) (x ^^^ l.getD i 0) by rw [upN, if_neg h])
  have HW := hx (show wgt l j x = mulR (upN x j l l.length) (invR (upN (l.getD j 0) j l l.length)) from rfl)
  have HIL := hx (invR_lt (upN (l.getD j 0) j l l.length))
  have hyo : l.getD j 0 < 256 := hlo.at j
  have hjl : (j : Int) < (l.length : Int) := by omega
  have hn1 : (l.length : Int) ≤ 1000 := by omega
  generalize l.getD j 0 = y at *
  clear hI hlo hln HI
  generalize l.length = n at *
  go_enter Try.func19, Try.ntmps19
  go_wp2_with fail
  go_loopw [7, 8, 9] (fun u d iv wr => ∃ i : Nat, i ≤ n ∧ iv = .int .i64 i ∧ u = .int .u8 (upN x j l i : Nat) ∧ d = .int .u8 (upN y j l i : Nat) ∧ Kept [] w wr) (fun _ _ iv _ => n - (intOf iv).toNat)
  case atStart => exact ⟨0, by omega, rfl, rfl, rfl, Kept.refl _ _⟩
  case round =>
    obtain ⟨i, hi, rfl, rfl, rfl, hk⟩ := hrel
    have HK := hx hk
    have hu1 := HU.out x i
    have hu2 := HU.out y i
    by_cases hlt : i < n
    · have hli : (i : Int) < (n : Int) := by omega
      by_cases hij : i = j
      · have hijb : ((i : Int) != (j : Int)) = false := by rw [hij]; simp
        have e1 := HU1.out x i hij
        have e2 := HU1.out y i hij
        have HE := hx (And.intro e1 e2)
        clear e1 e2 hij
        go_wp2_with fail
        go_roundw
        case rel => exact ⟨i + 1, by omega, by go_num, by rw [HE.out.1], by rw [HE.out.2], HK.out⟩
        case measure => simp [intOf] <;> omega
      · have hijb : ((i : Int) != (j : Int)) = true := bne_iff_ne.2 (by omega)
        have e1 := HU2.out x i hij
        have e2 := HU2.out y i hij
        have HE := hx (And.intro e1 e2)
        have c1 := kept_cell hk (HC.out i hlt)
        have c2 := kept_cell hk cj
        have c3 := kept_cell (hk.drew) (HC.out i hlt)
        have c4 := kept_cell (hk.drew) cj
        have hz := HO.out i
        have hw1 : IntKind.u8.wrap (x : Int) = (x : Int) := by rw [IntKind.wrap_u8]; omega
        have hw2 : IntKind.u8.wrap (y : Int) = (y : Int) := by rw [IntKind.wrap_u8]; omega
        generalize l.getD i 0 = z at *
        have hw3 : IntKind.u8.wrap (z : Int) = (z : Int) := by rw [IntKind.wrap_u8]; omega
        have hb1 := HX.out x z hx8 hz
        have hb2 := HX.out y z hyo hz
        have M1 := hx (HM.out (upN x j l i) (x ^^^ z) wr hu1 (Nat.xor_lt_two_pow (n := 8) hx8 hz))
        have M2 := hx (fun w3 => HM.out (upN y j l i) (y ^^^ z) w3 hu2 (Nat.xor_lt_two_pow (n := 8) hyo hz))
        generalize upN x j l i = u at *
        generalize upN y j l i = d at *
        generalize x ^^^ z = xz at *
        generalize y ^^^ z = yz at *
        clear e1 e2 hij
        go_wp2_with fail
        try rw [hb1]
        refine M1.out.mono ?_
        rintro e w2 ⟨rfl, rfl⟩
        clear hb1 M1
        go_upto_region 7 with fail
        go_region_with (go_at_call 25; (try rw [hb2]); refine (M2.out _).mono ?_; rintro e w2 ⟨rfl, rfl⟩)
        all_goals
          go_wp2_with fail
          go_roundw
          case rel => exact ⟨i + 1, by omega, by go_num, by rw [HE.out.1], by rw [HE.out.2], HK.out.drew⟩
          case measure => simp [intOf] <;> omega
    · obtain rfl : i = n := by omega
      have HI1 := hx (HV.out (upN y j l i) wr hu2)
      have HM1 := hx (HM.out (upN x j l i) (invR (upN y j l i)) wr hu1 HIL.out)
      rw [← HW.out] at HM1
      generalize upN x j l i = u at *
      generalize upN y j l i = d at *
      go_wp2_with fail
      refine HI1.out.mono ?_
      rintro e w2 ⟨rfl, rfl⟩
      go_wp2_with fail
      refine HM1.out.mono ?_
      rintro e w2 ⟨rfl, rfl⟩
      go_wp2_with fail
      go_ret
      exact ⟨rfl, HK.out⟩
end Go.Proofs.Ytjgnngnknhkpmaa
