import Derived.Test.YtimplkdmhndalaaWideH
import Derived.WalkLawsBesides
namespace Go.Proofs.Ytimplkdmhndalaa
open Go Go.RowKit
def Fits (n : Int) : Prop := -9223372036854775808 ≤ n ∧ n ≤ 9223372036854775807
theorem wval_of (n : Int) : n = wval (decide (n < 0)) n.natAbs := by
  unfold wval
  by_cases h : n < 0
  · rw [decide_eq_true h]; simp; omega
  · rw [decide_eq_false h]; simp; omega
theorem Of_any (n : Int) (w : World) (h : Fits n) :
    Calls Try.prog 44 #[.int .i64 n] w fun e w' => e = .returned (.agg (wide (decide (n < 0)) n.natAbs).toArray) ∧ Kept [] w w' :=
  of_any n n.natAbs (decide (n < 0)) w (wval_of n) rfl h.1 h.2
theorem wval_not (b : Bool) (n : Nat) : wval (!b) n = -wval b n := by unfold wval; cases b <;> simp
theorem lt9 {n : Nat} (h : n ≤ 36893488147419103232) : n < 65536 ^ 9 := Nat.lt_of_le_of_lt h (by decide)
set_option maxHeartbeats 800000 in
theorem rsub_any (a b : Int) (w : World) (ha : Fits a) (hb : Fits b) :
    Calls Try.prog 34 #[.int .i64 a, .int .i64 b] w fun e w' => e = .returned (.int .i64 (hold (a - b))) ∧ Kept [] w w' := by
  have hA : a.natAbs ≤ 9223372036854775808 := by have := ha.1; have := ha.2; omega
  have hB : b.natAbs ≤ 9223372036854775808 := by have := hb.1; have := hb.2; omega
  have ea := Lib.hid (wval_of a)
  have eb := Lib.hid (show a - b = a + wval (!decide (b < 0)) b.natAbs by rw [wval_not, ← wval_of b]; omega)
  have hA' := Lib.hid hA
  have hB' := Lib.hid hB
  have oa := Lib.hid (fun w => Of_any a w ha)
  have ob := Lib.hid (fun w => Of_any b w hb)
  clear hA hB ha hb
  generalize hna : decide (a < 0) = na at *
  generalize hnb : decide (b < 0) = nb at *
  generalize hAA : a.natAbs = A at *
  generalize hBB : b.natAbs = B at *
  clear hna hnb hAA hBB
  go_enter Try.func34, Try.ntmps34
  go_wp2_with fail
  refine (oa.out _).mono ?_
  rintro e w1 ⟨rfl, hk1⟩
  go_wp2_with fail
  refine (ob.out _).mono ?_
  rintro e w2 ⟨rfl, hk2⟩
  go_wp2_with fail
  refine (turn_any nb (dig B) _).mono ?_
  rintro e w5 ⟨rfl, hk5⟩
  go_wp2_with fail
  refine (Plus_any na (!nb) A B (lt9 (by have := hA'.out; omega)) (lt9 (by have := hB'.out; omega)) _).mono ?_
  rintro e w3 ⟨rfl, hk3⟩
  go_wp2_with fail
  refine (Held_any _ _ (lt9 (by have := plusN_le na A (!nb) B; have := hA'.out; have := hB'.out; omega)) _).mono ?_
  rintro e w4 ⟨rfl, hk4⟩
  rw [plus_val, ← ea.out, ← eb.out]
  go_wp2
  go_ret
  exact ⟨rfl, (((hk1.trans0 hk2).trans0 hk5).trans0 hk3).trans0 hk4⟩
theorem clamp_any (n lo hi : Int) (w : World) :
    Calls Try.prog 27 #[.int .i64 n, .int .i64 lo, .int .i64 hi] w fun e w' => e = .returned (.int .i64 (max lo (min n (max lo hi)))) ∧ w = w' := by
  go_enter Try.func27, Try.ntmps27
  go_wp2
  all_goals
    go_ret
    refine ⟨ret_int ?_, rfl⟩
    (repeat' split at *) <;> omega
theorem hold_fits {x : Int} (h : Fits x) : hold x = x := by
  have := h.1
  have := h.2
  unfold hold
  rw [if_neg (by omega), if_neg (by omega)]
set_option maxHeartbeats 800000 in
theorem wsub_any (a b : Int) (w : World) (ha : Fits a) (hb : Fits b) :
    Calls Try.prog 28 #[.int .i64 a, .int .i64 b] w fun e w' => e = .returned (.int .i64 (hold (a - b))) ∧ w = w' := by
  obtain ⟨a1, a2⟩ := ha
  obtain ⟨b1, b2⟩ := hb
  have key : ((b < 0 ∧ 9223372036854775807 + b < a) ∧ hold (a - b) = 9223372036854775807) ∨ ((0 < b ∧ a < -9223372036854775808 + b) ∧ hold (a - b) = -9223372036854775808) ∨ (¬ (b < 0 ∧ 9223372036854775807 + b < a) ∧ ¬ (0 < b ∧ a < -9223372036854775808 + b) ∧ hold (a - b) = a - b) := by
    unfold hold
    omega
  rcases key with ⟨⟨h1, h2⟩, h⟩ | ⟨⟨h1, h2⟩, h⟩ | ⟨h1, h2, h⟩
  · rw [h]
    clear h
    go_enter Try.func28, Try.ntmps28
    go_wp2
    go_ret
    exact ⟨rfl, rfl⟩
  · have g1 : decide (b < 0) = false := by simp; omega
    rw [h]
    clear h
    go_enter Try.func28, Try.ntmps28
    go_wp2
    go_ret
    exact ⟨rfl, rfl⟩
  · rw [h]
    clear h
    rcases Int.lt_trichotomy b 0 with hb | hb | hb
    · have g1 : decide (0 < b) = false := by simp; omega
      have g2 : ¬ (9223372036854775807 + b < a) := by omega
      clear h1 h2
      go_enter Try.func28, Try.ntmps28
      go_wp2
      go_ret
      exact ⟨rfl, rfl⟩
    · subst hb
      clear h1 h2
      go_enter Try.func28, Try.ntmps28
      go_wp2
      go_ret
      exact ⟨ret_int (by omega), rfl⟩
    · have g1 : decide (b < 0) = false := by simp; omega
      have g2 : ¬ (a < -9223372036854775808 + b) := by omega
      clear h1 h2
      go_enter Try.func28, Try.ntmps28
      go_wp2
      go_ret
      exact ⟨rfl, rfl⟩
/-- Division, rounded down. -/
def flo (a b : Int) : Int := a.fdiv b
theorem fdiv_tdiv (a b : Int) (hb : 0 < b) : a.fdiv b = if a.tmod b ≠ 0 ∧ a < 0 then a.tdiv b - 1 else a.tdiv b := by
  rw [Int.fdiv_eq_ediv_of_nonneg _ (by omega)]
  by_cases ha : 0 ≤ a
  · rw [Int.tdiv_eq_ediv_of_nonneg ha, if_neg (by omega)]
  · rw [Int.tdiv_eq_ediv, Int.tmod_eq_emod]
    have h1 : ¬ 0 ≤ a := ha
    by_cases hd : b ∣ a
    · have h0 : a % b = 0 := Int.emod_eq_zero_of_dvd hd
      simp [hd, h0]
    · have h0 : a % b ≠ 0 := fun h => hd (Int.dvd_of_emod_eq_zero h)
      have hlt := Int.emod_lt_of_pos a hb
      have hs : b.sign = 1 := Int.sign_eq_one_of_pos hb
      have hn : (b.natAbs : Int) = b := by omega
      simp [hd, h1, hs, hn]
      omega
theorem tdiv_lo (a b : Int) (ha : -9223372036854775808 ≤ a) (hb : 1 < b) : -9223372036854775807 ≤ a.tdiv b := by
  rcases Int.lt_or_le a 0 with h | h
  · have e : a.tdiv b = -((-a).tdiv b) := by rw [Int.neg_tdiv]; omega
    rw [e, Int.tdiv_eq_ediv_of_nonneg (by omega)]
    have h1 := Int.ediv_mul_le (-a) (show b ≠ 0 by omega)
    have h2 := Int.ediv_nonneg (show 0 ≤ -a by omega) (show 0 ≤ b by omega)
    have h3 := Int.mul_le_mul_of_nonneg_left (show 2 ≤ b by omega) h2
    omega
  · have := Int.tdiv_nonneg h (show 0 ≤ b by omega)
    omega
theorem tdiv_hi (a b : Int) (ha : a ≤ 9223372036854775807) (hb : 1 < b) : a.tdiv b ≤ 9223372036854775807 := by
  rcases Int.lt_or_le a 0 with h | h
  · have e : a.tdiv b = -((-a).tdiv b) := by rw [Int.neg_tdiv]; omega
    have := Int.tdiv_nonneg (show 0 ≤ -a by omega) (show 0 ≤ b by omega)
    omega
  · have := Int.tdiv_le_self b h
    omega
set_option maxHeartbeats 1600000 in
theorem floor_any (a b : Int) (w : World) (ha : Fits a) (h1 : 1 < b) (h2 : b ≤ 9223372036854775807) :
    Calls Try.prog 29 #[.int .i64 a, .int .i64 b] w fun e w' => e = .returned (.int .i64 (flo a b)) ∧ w = w' := by
  obtain ⟨a1, a2⟩ := ha
  have t0 : (b == 0) = false := by simp; omega
  have t1 : (b == -1) = false := by simp; omega
  have t2 : decide (b < 0) = false := by simp; omega
  have q1 := tdiv_lo a b a1 h1
  have q2 := tdiv_hi a b a2 h1
  have hff := fdiv_tdiv a b (by omega)
  by_cases hm : a.tmod b = 0
  · have hf := Lib.hid (show flo a b = a.tdiv b by unfold flo; rw [hff, if_neg (by omega)])
    have m1 : (a.tmod b != 0) = false := by simp [hm]
    clear hm hff
    go_enter Try.func29, Try.ntmps29
    go_wp2
    go_ret
    exact ⟨by rw [hf.out]; rfl, rfl⟩
  · have m1 : (a.tmod b != 0) = true := by simp [hm]
    by_cases hn : a < 0
    · have hf := Lib.hid (show flo a b = a.tdiv b - 1 by unfold flo; rw [hff, if_pos ⟨hm, hn⟩])
      have m2 : decide (a < 0) = true := by simpa using hn
      clear hm hff
      go_enter Try.func29, Try.ntmps29
      go_wp2
      go_ret
      exact ⟨by rw [hf.out]; rfl, rfl⟩
    · have hf := Lib.hid (show flo a b = a.tdiv b by unfold flo; rw [hff, if_neg (by omega)])
      have m2 : decide (a < 0) = false := by simpa using hn
      have m3 : (a % b != 0) = true := by rw [← Int.tmod_eq_emod_of_nonneg (by omega)]; exact m1
      clear hm hff
      go_enter Try.func29, Try.ntmps29
      go_wp2
      go_ret
      exact ⟨by rw [hf.out]; rfl, rfl⟩
set_option maxHeartbeats 1600000 in
theorem rfloor_any (a b : Int) (w : World) (ha : Fits a) (h1 : 1 < b) (h2 : b ≤ 9223372036854775807) :
    Calls Try.prog 35 #[.int .i64 a, .int .i64 b] w fun e w' => e = .returned (.int .i64 (flo a b)) ∧ w = w' := by
  obtain ⟨a1, a2⟩ := ha
  have t0 : (b == 0) = false := by simp; omega
  have t1 : (b == -1) = false := by simp; omega
  have t2 : decide (b < 0) = false := by simp; omega
  have q1 := tdiv_lo a b a1 h1
  have q2 := tdiv_hi a b a2 h1
  have hff := fdiv_tdiv a b (by omega)
  have hl := Lib.hid hff
  clear hff
  cases hB : (a == -9223372036854775808)
  all_goals
  have hff := hl.out
  by_cases hm : a.tmod b = 0
  · have hf := Lib.hid (show flo a b = a.tdiv b by unfold flo; rw [hff, if_neg (by omega)])
    have m1 : (a.tmod b != 0) = false := by simp [hm]
    clear hm hff
    go_enter Try.func35, Try.ntmps35
    go_wp2
    go_ret
    exact ⟨by rw [hf.out]; rfl, rfl⟩
  · have m1 : (a.tmod b != 0) = true := by simp [hm]
    by_cases hn : a < 0
    · have hf := Lib.hid (show flo a b = a.tdiv b - 1 by unfold flo; rw [hff, if_pos ⟨hm, hn⟩])
      have m2 : decide (a < 0) = true := by simpa using hn
      clear hm hff
      go_enter Try.func35, Try.ntmps35
      go_wp2
      go_ret
      exact ⟨by rw [hf.out]; rfl, rfl⟩
    · have hf := Lib.hid (show flo a b = a.tdiv b by unfold flo; rw [hff, if_neg (by omega)])
      have m2 : decide (a < 0) = false := by simpa using hn
      have m3 : (a % b != 0) = true := by rw [← Int.tmod_eq_emod_of_nonneg (by omega)]; exact m1
      clear hm hff
      go_enter Try.func35, Try.ntmps35
      go_wp2
      go_ret
      exact ⟨by rw [hf.out]; rfl, rfl⟩
end Go.Proofs.Ytimplkdmhndalaa
