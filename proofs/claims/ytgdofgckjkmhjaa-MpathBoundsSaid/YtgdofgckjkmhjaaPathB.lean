import Derived.Test.YtgdofgckjkmhjaaPathT
import Derived.Test.YtgdofgckjkmhjaaPathN
namespace Go.Proofs.Ytgdofgckjkmhjaa
open Go Go.RowKit
theorem beh_wrap (a b : Nat) (ha : a < 4294967296) (hb : b < 4294967296) : wrap64 (wrap32 (((a : Int) - (b : Int)) % 4294967296)) = behI a b := by
  unfold behI wrap64 wrap32
  omega
set_option maxHeartbeats 400000 in
theorem behind_any (a b : Nat) (w : World) (ha : a < 4294967296) (hb : b < 4294967296) :
    Calls Try.prog 45 #[.int .u32 a, .int .u32 b] w fun e w' => e = .returned (.int .i64 (behI a b)) ∧ w = w' := by
  have hw := Lib.hid (beh_wrap a b ha hb)
  clear ha hb
  go_enter Try.func45, Try.ntmps45
  go_wp2
  go_ret
  exact ⟨by rw [← hw.out]; rfl, rfl⟩
end Go.Proofs.Ytgdofgckjkmhjaa
