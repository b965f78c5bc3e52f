import Derived.Lib.Hide
namespace Go.Proofs.Ytgdofgckjkmhjaa
/-- What numbers came. -/
structure Sn where
  any : Bool
  top : Nat
  bits : Nat
  came : Int
  twice : Int
  lost : Int
def sn0 : Sn := ⟨false, 0, 0, 0, 0, 0⟩
/-- How far a is behind b, going round. -/
def behI (a b : Nat) : Int := if 2147483648 ≤ (a : Int) - b then (a : Int) - b - 4294967296 else if (a : Int) - b < -2147483648 then (a : Int) - b + 4294967296 else (a : Int) - b
theorem behI_bd (a b : Nat) (ha : a < 4294967296) (hb : b < 4294967296) : -2147483648 ≤ behI a b ∧ behI a b < 2147483648 := by unfold behI; omega
/-- How many of the g oldest marks are missing. -/
def lz (bits : Nat) : Nat → Nat
  | 0 => 0
  | g + 1 => lz bits g + if bits.testBit (63 - g) = true then 0 else 1
theorem lz_le (bits g : Nat) : lz bits g ≤ g := by
  induction g with
  | zero => simp [lz]
  | succ g ih => unfold lz; split <;> omega
/-- The marks when the newest number is so much greater. -/
def shlB (bits k : Nat) : Nat := if 64 ≤ k then 0 else bits * 2 ^ k % 18446744073709551616
def setB (bits k : Nat) : Nat := bits ||| 2 ^ k
theorem shlB_lt (bits k : Nat) : shlB bits k < 18446744073709551616 := by unfold shlB; split <;> omega
theorem setB_lt (bits k : Nat) (h : bits < 18446744073709551616) (hk : k < 64) : setB bits k < 18446744073709551616 := by
  have h1 : (18446744073709551616 : Nat) = 2 ^ 64 := rfl
  unfold setB
  rw [h1] at *
  exact Nat.or_lt_two_pow h (Nat.pow_lt_pow_right (by omega) hk)
theorem shlB_bit (bits k i : Nat) (hi : i < 64) : (shlB bits k).testBit i = (decide (k ≤ i) && bits.testBit (i - k)) := by
  unfold shlB
  split
  · rw [Nat.zero_testBit]
    have : ¬ k ≤ i := by omega
    simp [this]
  · rw [show (18446744073709551616 : Nat) = 2 ^ 64 from rfl, Nat.testBit_mod_two_pow, ← Nat.shiftLeft_eq, Nat.testBit_shiftLeft]
    simp [hi]
theorem setB_bit (bits k i : Nat) : (setB bits k).testBit i = (bits.testBit i || decide (k = i)) := by
  unfold setB
  rw [Nat.testBit_or, Nat.testBit_two_pow]
/-- A number comes: what then came, the error's number. -/
def takeN (s : Sn) (n : Nat) : Sn × Int :=
  if s.any = false then (⟨true, n, 1, 1, 0, 0⟩, 0)
  else if 0 < behI n s.top then (⟨true, n, setB (shlB s.bits (behI n s.top).toNat) 0, s.came + 1, s.twice, s.lost + lz s.bits (min (behI n s.top).toNat 64) + ((behI n s.top).toNat - 64 : Nat)⟩, 0)
  else if behI n s.top ≤ -64 then (s, 90)
  else if s.bits.testBit (-(behI n s.top)).toNat = true then ({ s with twice := s.twice + 1 }, 171)
  else ({ s with bits := setB s.bits (-(behI n s.top)).toNat, came := s.came + 1 }, 0)
/-- The word that the marks make, from the highest down to the k-th. -/
def wrd (bits k : Nat) : Nat := bits / 2 ^ k
theorem wrd_step (bits k : Nat) : wrd bits k = 2 * wrd bits (k + 1) + (if bits.testBit k = true then 1 else 0) := by
  unfold wrd
  rw [Nat.pow_succ, ← Nat.div_div_eq_div_mul, Nat.testBit_eq_decide_div_mod_eq]
  by_cases h : bits / 2 ^ k % 2 = 1
  · simp [h]; omega
  · simp [h]; omega
theorem wrd_0 (bits : Nat) : wrd bits 0 = bits := by simp [wrd]
theorem wrd_64 (bits : Nat) (h : bits < 18446744073709551616) : wrd bits 64 = 0 := by unfold wrd; exact Nat.div_eq_of_lt h
structure SnOk (s : Sn) (k : Int) : Prop where
  top : s.top < 4294967296
  bits : s.bits < 18446744073709551616
  came : 0 ≤ s.came ∧ s.came ≤ k
  twice : 0 ≤ s.twice ∧ s.twice ≤ k
  lost : 0 ≤ s.lost ∧ s.lost ≤ k * 2147483648
theorem sn0_ok : SnOk sn0 0 := by constructor <;> simp [sn0]
theorem take_ok (s : Sn) (n : Nat) (k : Int) (h : SnOk s k) (hn : n < 4294967296) (hk : 0 ≤ k) : SnOk (takeN s n).1 (k + 1) := by
  obtain ⟨h1, h2, h3, h4, h5⟩ := h
  have hb := behI_bd n s.top hn h1
  have hz := lz_le s.bits (min (behI n s.top).toNat 64)
  unfold takeN
  split
  · exact ⟨hn, by simp, by simp only; omega, by simp only; omega, by simp only; omega⟩
  · split
    · exact ⟨hn, setB_lt _ _ (shlB_lt _ _) (by omega), by simp only; omega, by simp only; omega, by simp only; omega⟩
    · split
      · exact ⟨h1, h2, by simp only; omega, by simp only; omega, by simp only; omega⟩
      · split
        · exact ⟨h1, h2, by simp only; omega, by simp only; omega, by simp only; omega⟩
        · exact ⟨h1, setB_lt _ _ h2 (by omega), by simp only; omega, by simp only; omega, by simp only; omega⟩
end Go.Proofs.Ytgdofgckjkmhjaa
