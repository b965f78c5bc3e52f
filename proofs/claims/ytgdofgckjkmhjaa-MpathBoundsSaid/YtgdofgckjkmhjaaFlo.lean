import Derived.Test.YtgdofgckjkmhjaaProg
import Derived.Test.YtgdofgckjkmhjaaMem
import Derived.Handy
import Derived.LoopTactic
import Derived.Outline
import Derived.Lib.Hide
import Derived.BigQuiet
import Derived.BigGuardPart
import Derived.WalkLawsBesides
namespace Go.Proofs.Ytgdofgckjkmhjaa
open Go Go.RowKit
def Fits (n : Int) : Prop := -9223372036854775808 ≤ n ∧ n ≤ 9223372036854775807
theorem clamp_any (n lo hi : Int) (w : World) :
    Calls Try.prog 54 #[.int .i64 n, .int .i64 lo, .int .i64 hi] w fun e w' => e = .returned (.int .i64 (max lo (min n (max lo hi)))) ∧ w = w' := by
  go_enter Try.func54, Try.ntmps54
  go_wp2
  all_goals
    go_ret
    refine ⟨ret_int ?_, rfl⟩
    (repeat' split at *) <;> omega
def flo (a b : Int) : Int := a.fdiv b
theorem fdiv_tdiv (a b : Int) (hb : 0 < b) : a.fdiv b = if a.tmod b ≠ 0 ∧ a < 0 then a.tdiv b - 1 else a.tdiv b := by
  rw [Int.fdiv_eq_ediv_of_nonneg _ (by omega)]
  by_cases ha : 0 ≤ a
  · rw [Int.tdiv_eq_ediv_of_nonneg ha, if_neg (by omega)]
  · rw [Int.tdiv_eq_ediv, Int.tmod_eq_emod]
    have h1 : ¬ 0 ≤ a := ha
    by_cases hd : b ∣ a
    · have h0 : a % b = 0 := Int.emod_eq_zero_of_dvd hd
      simp [hd, h0]
    · have h0 : a % b ≠ 0 := fun h => hd (Int.dvd_of_emod_eq_zero h)
      have hlt := Int.emod_lt_of_pos a hb
      have hs : b.sign = 1 := Int.sign_eq_one_of_pos hb
      have hn : (b.natAbs : Int) = b := by omega
      simp [hd, h1, hs, hn]
      omega
theorem tdiv_lo (a b : Int) (ha : -9223372036854775808 ≤ a) (hb : 1 < b) : -9223372036854775807 ≤ a.tdiv b := by
  rcases Int.lt_or_le a 0 with h | h
  · have e : a.tdiv b = -((-a).tdiv b) := by rw [Int.neg_tdiv]; omega
    rw [e, Int.tdiv_eq_ediv_of_nonneg (by omega)]
    have h1 := Int.ediv_mul_le (-a) (show b ≠ 0 by omega)
    have h2 := Int.ediv_nonneg (show 0 ≤ -a by omega) (show 0 ≤ b by omega)
    have h3 := Int.mul_le_mul_of_nonneg_left (show 2 ≤ b by omega) h2
    omega
  · have := Int.tdiv_nonneg h (show 0 ≤ b by omega)
    omega
theorem tdiv_hi (a b : Int) (ha : a ≤ 9223372036854775807) (hb : 1 < b) : a.tdiv b ≤ 9223372036854775807 := by
  rcases Int.lt_or_le a 0 with h | h
  · have e : a.tdiv b = -((-a).tdiv b) := by rw [Int.neg_tdiv]; omega
    have := Int.tdiv_nonneg (show 0 ≤ -a by omega) (show 0 ≤ b by omega)
    omega
  · have := Int.tdiv_le_self b h
    omega
set_option maxHeartbeats 1600000 in
theorem floor_any (a b : Int) (w : World) (ha : Fits a) (h1 : 1 < b) (h2 : b ≤ 9223372036854775807) :
    Calls Try.prog 50 #[.int .i64 a, .int .i64 b] w fun e w' => e = .returned (.int .i64 (flo a b)) ∧ w = w' := by
  obtain ⟨a1, a2⟩ := ha
  have t0 : (b == 0) = false := by simp; omega
  have t1 : (b == -1) = false := by simp; omega
  have t2 : decide (b < 0) = false := by simp; omega
  have q1 := tdiv_lo a b a1 h1
  have q2 := tdiv_hi a b a2 h1
  have hff := fdiv_tdiv a b (by omega)
  by_cases hm : a.tmod b = 0
  · have hf := Lib.hid (show flo a b = a.tdiv b by unfold flo; rw [hff, if_neg (by omega)])
    have m1 : (a.tmod b != 0) = false := by simp [hm]
    clear hm hff
    go_enter Try.func50, Try.ntmps50
    go_wp2
    go_ret
    exact ⟨by rw [hf.out]; rfl, rfl⟩
  · have m1 : (a.tmod b != 0) = true := by simp [hm]
    by_cases hn : a < 0
    · have hf := Lib.hid (show flo a b = a.tdiv b - 1 by unfold flo; rw [hff, if_pos ⟨hm, hn⟩])
      have m2 : decide (a < 0) = true := by simpa using hn
      clear hm hff
      go_enter Try.func50, Try.ntmps50
      go_wp2
      go_ret
      exact ⟨by rw [hf.out]; rfl, rfl⟩
    · have hf := Lib.hid (show flo a b = a.tdiv b by unfold flo; rw [hff, if_neg (by omega)])
      have m2 : decide (a < 0) = false := by simpa using hn
      have m3 : (a % b != 0) = true := by rw [← Int.tmod_eq_emod_of_nonneg (by omega)]; exact m1
      clear hm hff
      go_enter Try.func50, Try.ntmps50
      go_wp2
      go_ret
      exact ⟨by rw [hf.out]; rfl, rfl⟩
end Go.Proofs.Ytgdofgckjkmhjaa
