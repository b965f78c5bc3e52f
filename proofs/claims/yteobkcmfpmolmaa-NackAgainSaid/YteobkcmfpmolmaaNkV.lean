/- How far one number is behind another, of both sides. -/
import Derived.Test.YteobkcmfpmolmaaTmP
import Derived.Test.YteobkcmfpmolmaaOpen
namespace Go.Proofs.Yteobkcmfpmolmaa
open Go Go.RowKit
def behV (a b : Int) : Int := if 2147483648 ≤ a - b then a - b - 4294967296 else if a - b < -2147483648 then a - b + 4294967296 else a - b
theorem behV_wrap {a b : Int} (ha : 0 ≤ a ∧ a ≤ 4294967295) (hb : 0 ≤ b ∧ b ≤ 4294967295) : wrap64 (wrap32 ((a - b) % 4294967296)) = behV a b := by
  unfold behV wrap64 wrap32
  omega
set_option maxHeartbeats 400000 in
theorem beh_any (a b : Int) (w : World) (ha : 0 ≤ a ∧ a ≤ 4294967295) (hb : 0 ≤ b ∧ b ≤ 4294967295) :
    Calls Try.prog 33 #[.int .u32 a, .int .u32 b] w fun e w' => e = .returned (.int .i64 (behV a b)) ∧ w = w' := by
  have hw := hx (behV_wrap ha hb)
  clear ha hb
  go_enter Try.func33, Try.ntmps33
  go_wp2
  go_ret
  exact ⟨by rw [← hw.out]; rfl, rfl⟩
set_option maxHeartbeats 400000 in
theorem rbeh_any (a b : Int) (w : World) (ha : 0 ≤ a ∧ a ≤ 4294967295) (hb : 0 ≤ b ∧ b ≤ 4294967295) :
    Calls Try.prog 31 #[.int .u32 a, .int .u32 b] w fun e w' => e = .returned (.int .i64 (behV a b)) ∧ w = w' := by
  have h1 : wrap64 a = a := by unfold wrap64; omega
  have h2 : wrap64 b = b := by unfold wrap64; omega
  have h3 : wrap64 (a - b) = a - b := by unfold wrap64; omega
  have h4 : wrap64 (a - b - 4294967296) = a - b - 4294967296 := by unfold wrap64; omega
  have h5 : wrap64 (a - b + 4294967296) = a - b + 4294967296 := by unfold wrap64; omega
  clear ha hb
  rcases (show 2147483648 ≤ a - b ∨ a - b < -2147483648 ∨ (a - b < 2147483648 ∧ -2147483648 ≤ a - b) by omega) with h | h | ⟨h, hb⟩
  · have z := hx (show behV a b = a - b - 4294967296 from if_pos h)
    go_enter Try.func31, Try.ntmps31
    go_wp2
    go_ret
    exact ⟨congrArg (fun x => Ending.returned (.int .i64 x)) (h4.trans z.out.symm), rfl⟩
  · have z := hx (show behV a b = a - b + 4294967296 by unfold behV; rw [if_neg (by omega), if_pos h])
    go_enter Try.func31, Try.ntmps31
    go_wp2
    go_ret
    exact ⟨congrArg (fun x => Ending.returned (.int .i64 x)) (h5.trans z.out.symm), rfl⟩
  · have z := hx (show behV a b = a - b by unfold behV; rw [if_neg (by omega), if_neg (by omega)])
    go_enter Try.func31, Try.ntmps31
    go_wp2
    go_ret
    exact ⟨congrArg (fun x => Ending.returned (.int .i64 x)) (z.out.symm), rfl⟩
theorem u32_in {k : Int} (h : (Lit.int .u32 k).wf = true) : 0 ≤ k ∧ k ≤ 4294967295 := by
  simp only [Lit.wf, Bool.and_eq_true, decide_eq_true_eq] at h
  exact ⟨h.1, h.2⟩
end Go.Proofs.Yteobkcmfpmolmaa
