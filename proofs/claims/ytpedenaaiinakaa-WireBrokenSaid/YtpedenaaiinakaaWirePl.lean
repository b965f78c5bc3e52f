import Derived.Test.YtpedenaaiinakaaRefA
import Derived.Test.YtpedenaaiinakaaCrcC
namespace Go.Proofs.Ytpedenaaiinakaa
open Go Go.RowKit
theorem byts_succ (x n : Nat) : byts x (n + 1) = byts (x / 256) n ++ [lob x] := by
  unfold byts tab
  rw [List.range_succ, List.map_append]
  congr 1
  · refine List.map_congr_left fun i hi => ?_
    have hi' : i < n := by simpa using hi
    rw [Nat.div_div_eq_div_mul]
    congr 2
    rw [show n + 1 - 1 - i = (n - 1 - i) + 1 by omega, Nat.pow_succ, Nat.mul_comm]
  · simp
theorem beg_app (l : List UInt8) (b : UInt8) : beg (l ++ [b]) = beg l * 256 + b.toNat := by
  unfold beg; simp
theorem beg_byts (n : Nat) : ∀ x, beg (byts x n) = x % 256 ^ n := by
  induction n with
  | zero => intro x; simp [byts, tab, beg, Nat.mod_one]
  | succ n ih =>
    intro x
    rw [byts_succ, beg_app, ih, lob_nat, Nat.pow_succ, Nat.mul_comm (256 ^ n) 256, Nat.mod_mul]
    omega
theorem lob_app (m : Nat) (b : UInt8) : lob (m * 256 + b.toNat) = b := by
  apply UInt8.toNat_inj.1
  rw [lob_nat]
  have := b.toNat_lt
  omega
theorem byts_app (m : Nat) (b : UInt8) (n : Nat) : byts (m * 256 + b.toNat) (n + 1) = byts m n ++ [b] := by
  rw [byts_succ, lob_app]
  congr 2
  have := b.toNat_lt
  omega
theorem byts_beg (n : Nat) : ∀ l : List UInt8, l.length = n → byts (beg l) n = l := by
  induction n with
  | zero => intro l h; have := List.length_eq_zero_iff.1 h; subst this; simp [byts, tab]
  | succ n ih =>
    intro l h
    have hne : l ≠ [] := by intro e; subst e; simp at h
    have hl := List.dropLast_concat_getLast hne
    rw [← hl, beg_app, byts_app, ih]
    simp; omega
end Go.Proofs.Ytpedenaaiinakaa
