import Derived.Test.YthkjllphefnphaaPathT
import Derived.Test.YthkjllphefnphaaPathN
namespace Go.Proofs.Ythkjllphefnphaa
open Go Go.RowKit
theorem beh_wrap (a b : Nat) (ha : a < 4294967296) (hb : b < 4294967296) : wrap64 (wrap32 (((a : Int) - (b : Int)) % 4294967296)) = behI a b := by
  unfold behI wrap64 wrap32
  omega
set_option maxHeartbeats 400000 in
theorem behind_any (a b : Nat) (w : World) (ha : a < 4294967296) (hb : b < 4294967296) :
    Calls Try.prog 32 #[.int .u32 a, .int .u32 b] w fun e w' => e = .returned (.int .i64 (behI a b)) ∧ w = w' := by
  have hw := Lib.hid (beh_wrap a b ha hb)
  clear ha hb
  go_enter Try.func32, Try.ntmps32
  go_wp2
  go_ret
  exact ⟨by rw [← hw.out]; rfl, rfl⟩
set_option maxHeartbeats 400000 in
theorem rbehind_any (a b : Nat) (w : World) (ha : a < 4294967296) (hb : b < 4294967296) :
    Calls Try.prog 36 #[.int .u32 a, .int .u32 b] w fun e w' => e = .returned (.int .i64 (behI a b)) ∧ w = w' := by
  rcases (show 2147483648 ≤ (a : Int) - b ∨ (a : Int) - b < -2147483648 ∨ ((a : Int) - b < 2147483648 ∧ -2147483648 ≤ (a : Int) - b) by omega) with h | h | ⟨h, h2⟩
  · have z := Lib.hid (show behI a b = (a : Int) - b - 4294967296 from if_pos h)
    go_enter Try.func36, Try.ntmps36
    go_wp2
    go_ret
    exact ⟨by rw [z.out]; rfl, rfl⟩
  · have z := Lib.hid (show behI a b = (a : Int) - b + 4294967296 by unfold behI; rw [if_neg (by omega), if_pos h])
    go_enter Try.func36, Try.ntmps36
    go_wp2
    go_ret
    exact ⟨by rw [z.out]; rfl, rfl⟩
  · have z := Lib.hid (show behI a b = (a : Int) - b by unfold behI; rw [if_neg (by omega), if_neg (by omega)])
    go_enter Try.func36, Try.ntmps36
    go_wp2
    go_ret
    exact ⟨by rw [z.out]; rfl, rfl⟩
end Go.Proofs.Ythkjllphefnphaa
