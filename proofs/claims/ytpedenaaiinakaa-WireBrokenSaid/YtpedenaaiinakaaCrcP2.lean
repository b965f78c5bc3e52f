import Derived.Test.YtpedenaaiinakaaCrcP
namespace Go.Proofs.Ytpedenaaiinakaa
open Go
/-- Bytes behind a remainder. -/
def rst (r : Nat) (l : List UInt8) : Nat := l.foldl (fun r b => stp r b.toNat) r
def mor (s : Nat) (l : List UInt8) : Nat := 4294967295 - rst (4294967295 - s) l
theorem rst_lt {r : Nat} (h : r < 4294967296) (l : List UInt8) : rst r l < 4294967296 := by
  unfold rst
  induction l generalizing r with
  | nil => exact h
  | cons b l ih => exact ih (stp_lt h b.toNat_lt)
theorem mor_lt (s : Nat) (l : List UInt8) : mor s l < 4294967296 := by unfold mor; omega
theorem rst_snoc (r : Nat) (l : List UInt8) (k : Nat) (h : k < l.length) : rst r (l.take (k + 1)) = stp (rst r (l.take k)) l[k].toNat := by
  unfold rst
  rw [List.take_succ_eq_append_getElem h, List.foldl_append]; rfl
theorem not_u32 {r : Nat} (h : r < 4294967296) : bits .xor .u32 IntKind.u32.max (r : Int) = ((4294967295 - r : Nat) : Int) := by
  have := u32_xor_nat 4294967295 r (by omega) h
  have h2 : (4294967295 : Nat) ^^^ r = 4294967295 - r := by
    apply Nat.eq_of_testBit_eq
    intro i
    have e := Nat.testBit_two_pow_sub_succ (n := 32) h i
    rw [show (2 : Nat) ^ 32 - (r + 1) = 4294967295 - r by omega] at e
    rw [e, Nat.testBit_xor, show (4294967295 : Nat) = 2 ^ 32 - 1 from rfl, Nat.testBit_two_pow_sub_one]
    by_cases hi : i < 32
    · simp [hi]
    · simp [hi]
      exact Nat.testBit_lt_two_pow (Nat.lt_of_lt_of_le h (Nat.pow_le_pow_right (n := 2) (by omega) (show 32 ≤ i by omega)))
  rw [← h2, ← this]; rfl
/-! A step by the table: the lowest byte alone is looked up. -/
theorem one_xor (a b : Nat) (hb : b % 2 = 0) : one (a ^^^ b) = one a ^^^ (b / 2) := by
  have h1 : (a ^^^ b) % 2 = a % 2 := by
    have h := Nat.xor_mod_two_pow (a := a) (b := b) (n := 1)
    rw [Nat.pow_one, hb, Nat.xor_zero] at h; exact h
  have h2 : (a ^^^ b) / 2 = (a / 2) ^^^ (b / 2) := Nat.xor_div_two
  unfold one
  rw [h1, h2]
  split
  · rw [Nat.xor_assoc, Nat.xor_assoc, Nat.xor_comm (b / 2)]
  · rfl
theorem ones_xor (k a b : Nat) (hb : b % 2 ^ k = 0) : ones k (a ^^^ b) = ones k a ^^^ (b / 2 ^ k) := by
  induction k with
  | zero => simp [ones]
  | succ k ih =>
    have hk : b % 2 ^ k = 0 := by
      have : 2 ^ k ∣ 2 ^ (k + 1) := ⟨2, by rw [Nat.pow_succ]⟩
      exact Nat.mod_eq_zero_of_dvd (Nat.dvd_trans this (Nat.dvd_of_mod_eq_zero hb))
    have he : b / 2 ^ k % 2 = 0 := by
      obtain ⟨c, rfl⟩ := Nat.dvd_of_mod_eq_zero hb
      rw [Nat.pow_succ, Nat.mul_assoc, Nat.mul_div_cancel_left _ (Nat.two_pow_pos k)]; omega
    show one (ones k (a ^^^ b)) = one (ones k a) ^^^ _
    rw [ih hk, one_xor _ _ he, Nat.div_div_eq_div_mul, Nat.pow_succ]
theorem xor_low (r b : Nat) : (r ^^^ b) = ((r % 256) ^^^ b) ^^^ (r / 256 * 256) := by
  have h : r = (r % 256) ^^^ (r / 256 * 256) := by
    have h1 : r / 256 * 256 = (r / 256) <<< 8 := by rw [Nat.shiftLeft_eq]
    apply Nat.eq_of_testBit_eq
    intro i
    rw [Nat.testBit_xor, h1, Nat.testBit_shiftLeft, show (256 : Nat) = 2 ^ 8 from rfl, Nat.testBit_mod_two_pow, Nat.testBit_div_two_pow]
    by_cases hi : i < 8
    · simp [hi, show ¬ 8 ≤ i by omega]
    · simp [hi, show 8 ≤ i by omega, show i - 8 + 8 = i by omega]
  have h2 : r ^^^ b = ((r % 256) ^^^ (r / 256 * 256)) ^^^ b := by rw [← h]
  rw [h2, Nat.xor_assoc, Nat.xor_comm (r / 256 * 256) b, ← Nat.xor_assoc]
theorem stp_tab (r b : Nat) : stp r b = stp 0 ((r % 256) ^^^ b) ^^^ (r / 256) := by
  unfold stp
  rw [xor_low r b, ones_xor 8 _ _ (Nat.mul_mod_left _ _), Nat.zero_xor, show (2:Nat) ^ 8 = 256 from rfl, Nat.mul_div_cancel _ (by omega)]
end Go.Proofs.Ytpedenaaiinakaa
