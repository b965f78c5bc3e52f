import Derived.Test.YtgdofgckjkmhjaaPathU
import Derived.Test.YtgdofgckjkmhjaaPartL
namespace Go.Proofs.Ytgdofgckjkmhjaa
open Go Go.RowKit
/-- How many of the first i marks are pushed out and missing. -/
def lc (bits k : Nat) : Nat → Nat
  | 0 => 0
  | i + 1 => lc bits k i + if 64 ≤ i + k ∧ bits.testBit i = false then 1 else 0
theorem lc_le (bits k i : Nat) : lc bits k i ≤ i := by
  induction i with
  | zero => simp [lc]
  | succ i ih => unfold lc; split <;> omega
theorem lc_none (bits k i : Nat) (h : i + k ≤ 64) : lc bits k i = 0 := by
  induction i with
  | zero => rfl
  | succ i ih => unfold lc; rw [ih (by omega), if_neg (by omega)]
theorem lc_lz (bits k j : Nat) (h : j ≤ min k 64) : lc bits k 64 = lc bits k (64 - j) + lz bits j := by
  induction j with
  | zero => simp [lz]
  | succ j ih =>
    rw [ih (by omega), show 64 - j = (64 - (j + 1)) + 1 by omega]
    rw [show 64 - (j + 1) = 63 - j by omega, show lc bits k (63 - j + 1) = lc bits k (63 - j) + (if 64 ≤ 63 - j + k ∧ bits.testBit (63 - j) = false then 1 else 0) from rfl, show lz bits (j + 1) = lz bits j + (if bits.testBit (63 - j) = true then 0 else 1) from rfl]
    cases bits.testBit (63 - j)
    · rw [if_pos ⟨by omega, rfl⟩, if_neg (by simp)]; omega
    · rw [if_neg (by simp), if_pos rfl]; omega
theorem lc_all (bits k : Nat) : lc bits k 64 = lz bits (min k 64) := by
  rw [lc_lz bits k (min k 64) (Nat.le_refl _)]
  by_cases h : k ≤ 64
  · rw [lc_none bits k _ (by omega)]; omega
  · rw [show 64 - min k 64 = 0 by omega]; simp [lc]
/-- The new marks, as far as the first i are laid. -/
def mrow (bits k i : Nat) : List Value := tab 64 fun j => .bool (decide (k ≤ j ∧ j < k + i) && bits.testBit (j - k))
theorem mrow_len (bits k i : Nat) : (mrow bits k i).length = 64 := tab_len _ _
theorem mrow_0 (bits k : Nat) : mrow bits k 0 = tab 64 fun _ => .bool false := tab_ext fun j _ => by
  rw [show decide (k ≤ j ∧ j < k + 0) = false by simp]
  rfl
theorem mrow_step (bits k i : Nat) (h : i + k < 64) : (mrow bits k i).set (i + k) (.bool (bits.testBit i)) = mrow bits k (i + 1) := by
  refine tab_set h ?_ (fun j _ hne => ?_)
  · rw [show decide (k ≤ i + k ∧ i + k < k + (i + 1)) = true by simp; omega, show i + k - k = i by omega]; rfl
  · rw [show decide (k ≤ j ∧ j < k + i) = decide (k ≤ j ∧ j < k + (i + 1)) by apply decide_eq_decide.2; omega]
theorem mrow_out (bits k i : Nat) (h : 64 ≤ i + k) : mrow bits k i = mrow bits k (i + 1) := tab_ext fun j hj => by
  rw [show decide (k ≤ j ∧ j < k + i) = decide (k ≤ j ∧ j < k + (i + 1)) by apply decide_eq_decide.2; omega]
theorem mrow_all (bits k : Nat) : mrow bits k 64 = mkc (shlB bits k) := tab_ext fun j hj => by
  rw [shlB_bit _ _ _ hj, show decide (k ≤ j ∧ j < k + 64) = decide (k ≤ j) by apply decide_eq_decide.2; omega]
theorem mkc_one (bits : Nat) : ∀ v ∈ mkc bits, v.oneCell' = true := by
  intro v hv
  simp only [mkc, tab, List.mem_map] at hv
  obtain ⟨i, _, rfl⟩ := hv
  rfl
theorem rsc_marks (s : Sn) (B : Nat) : setAll (rsc s) 2 (mkc B) = rsc { s with bits := B } := by
  apply List.ext_getElem?
  intro i
  rw [setAll_get _ _ _ (by rw [rsc_len, mkc_len]; omega), mkc_len]
  by_cases h : 2 ≤ i ∧ i < 2 + 64
  · rw [if_pos h]
    have e := rsc_mark { s with bits := B } (i - 2) (by omega)
    rw [show 2 + (i - 2) = i by omega] at e
    rw [e]
    exact tab_get (by omega)
  · rw [if_neg h]
    by_cases h2 : i < 2
    · rcases (show i = 0 ∨ i = 1 by omega) with rfl | rfl <;> simp [rsc]
    · by_cases h3 : i < 69
      · have a := rsc_tail s (i - 66) (by omega)
        have b := rsc_tail { s with bits := B } (i - 66) (by omega)
        rw [show 66 + (i - 66) = i by omega] at a b
        rw [a, b]
      · rw [List.getElem?_eq_none (by rw [rsc_len]; omega), List.getElem?_eq_none (by rw [rsc_len]; omega)]
end Go.Proofs.Ytgdofgckjkmhjaa
