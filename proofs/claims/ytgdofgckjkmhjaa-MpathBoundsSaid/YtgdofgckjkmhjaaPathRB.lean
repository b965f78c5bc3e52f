import Derived.Test.YtgdofgckjkmhjaaPathZ
namespace Go.Proofs.Ytgdofgckjkmhjaa
open Go Go.RowKit
theorem wrd_lt (bits k : Nat) (h : bits < 18446744073709551616) (hk : 1 ≤ k) : wrd bits k < 9223372036854775808 := by
  unfold wrd
  have h2 : 2 ^ 1 ≤ 2 ^ k := Nat.pow_le_pow_right (by omega) hk
  have := Nat.div_le_div_left h2 (show 0 < 2 ^ 1 by omega) (a := bits)
  omega
end Go.Proofs.Ytgdofgckjkmhjaa
