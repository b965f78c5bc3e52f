import Derived.Laws.BitsAllLaws
import Derived.WalkKit
namespace Go.Proofs.Ytpedenaaiinakaa
open Go

/-- One step of a remainder. -/
def one (r : Nat) : Nat := if r % 2 = 1 then (r / 2) ^^^ 3988292384 else r / 2
def ones : Nat → Nat → Nat
  | 0, r => r
  | k + 1, r => one (ones k r)
/-- A byte. -/
def stp (r b : Nat) : Nat := ones 8 (r ^^^ b)
theorem one_lt {r : Nat} (h : r < 4294967296) : one r < 4294967296 := by
  unfold one
  split
  · exact Nat.xor_lt_two_pow (n := 32) (by omega) (by omega)
  · omega
theorem ones_lt {r : Nat} (h : r < 4294967296) (k : Nat) : ones k r < 4294967296 := by
  induction k with
  | zero => exact h
  | succ k ih => exact one_lt ih
theorem xor_lt {r b : Nat} (h : r < 4294967296) (hb : b < 4294967296) : r ^^^ b < 4294967296 :=
  Nat.xor_lt_two_pow (n := 32) (by omega) (by omega)
theorem stp_lt {r b : Nat} (h : r < 4294967296) (hb : b < 256) : stp r b < 4294967296 :=
  ones_lt (xor_lt h (by omega)) 8
theorem and1 {r : Nat} (h : r < 4294967296) : bits .and .u32 (r : Int) 1 = ((r % 2 : Nat) : Int) := by
  have := u32_and_nat r 1 h (by omega)
  rw [nat_mask1] at this
  exact this
theorem and1_odd {r : Nat} (h : r < 4294967296) (ho : r % 2 = 1) : bits .and .u32 (r : Int) 1 = 1 := by
  rw [and1 h, ho]; rfl
theorem and1_even {r : Nat} (h : r < 4294967296) (ho : ¬ r % 2 = 1) : bits .and .u32 (r : Int) 1 = 0 := by
  rw [and1 h, show r % 2 = 0 by omega]; rfl
theorem one_odd {r : Nat} (h : r < 4294967296) (ho : r % 2 = 1) : bits .xor .u32 ((r : Int) / 2) 3988292384 = ((one r : Nat) : Int) := by
  have := u32_xor_nat (r / 2) 3988292384 (by omega) (by omega)
  rw [one, if_pos ho]
  rw [← this]; rfl
theorem one_even {r : Nat} (ho : ¬ r % 2 = 1) : (r : Int) / 2 = ((one r : Nat) : Int) := by
  rw [one, if_neg ho]; omega
end Go.Proofs.Ytpedenaaiinakaa
