/- The part that one number is of another one, in parts of 65536. -/
import Derived.Test.YtgbikakhnmjllaaWord
import Derived.Test.YtgbikakhnmjllaaWideT
namespace Go.Proofs.Ytgbikakhnmjllaa
open Go Go.RowKit
set_option maxHeartbeats 800000 in
theorem floor_nn (a b : Int) (w : World) (ha : 0 ≤ a) (ha2 : a ≤ 9223372036854775807) (h1 : 0 < b) (h2 : b ≤ 9223372036854775807) :
    Calls Try.prog 21 #[.int .i64 a, .int .i64 b] w fun e w' => e = .returned (.int .i64 (a / b)) ∧ w = w' := by
  have hne : b ≠ 0 := by omega
  have hne1 : b ≠ -1 := by omega
  have hna : ¬ a < 0 := by omega
  have hnb : ¬ b < 0 := by omega
  have q0 := Int.ediv_nonneg ha (Int.le_of_lt h1)
  have q1 : a / b ≤ a := Int.ediv_le_self _ ha
  go_enter Try.func21, Try.ntmps21
  go_wp2
  all_goals
    go_ret
    exact ⟨rfl, rfl⟩
set_option maxHeartbeats 800000 in
theorem rest_nn (a b : Int) (w : World) (ha : 0 ≤ a) (ha2 : a ≤ 9223372036854775807) (h1 : 0 < b) (h2 : b ≤ 9223372036854775807) :
    Calls Try.prog 34 #[.int .i64 a, .int .i64 b] w fun e w' => e = .returned (.int .i64 (a % b)) ∧ w = w' := by
  have t0 : (b == 0) = false := by simp; omega
  have t1 : (b == -1) = false := by simp; omega
  have t2 : decide (b < 0) = false := by simp; omega
  have q0 := Int.emod_nonneg a (show b ≠ 0 by omega)
  have q1 := Int.emod_lt_of_pos a h1
  have m2 : decide (a % b < 0) = false := by simp; omega
  by_cases hm : a % b = 0
  · have m1 : (a % b != 0) = false := by simp [hm]
    have m3 : (a.tmod b != 0) = false := by rw [Int.tmod_eq_emod_of_nonneg ha]; exact m1
    clear hm
    go_enter Try.func34, Try.ntmps34
    go_wp2
    go_ret
    exact ⟨rfl, rfl⟩
  · have m1 : (a % b != 0) = true := by simp [hm]
    have m3 : (a.tmod b != 0) = true := by rw [Int.tmod_eq_emod_of_nonneg ha]; exact m1
    clear hm
    go_enter Try.func34, Try.ntmps34
    go_wp2
    go_ret
    exact ⟨rfl, rfl⟩
set_option maxHeartbeats 800000 in
theorem abs64_nn (a : Int) (w : World) (ha : 0 ≤ a) (ha2 : a ≤ 9223372036854775807) :
    Calls Try.prog 33 #[.int .i64 a] w fun e w' => e = .returned (.int .u64 a) ∧ w = w' := by
  go_enter Try.func33, Try.ntmps33
  go_wp2
  go_ret
  exact ⟨rfl, rfl⟩
theorem or1 (y : Int) (h0 : 0 ≤ y) (h1 : y < 65536) : bits .or .i64 (y * 2) 1 = 2 * y + 1 := by
  have h := bits_join .i64 32 (by decide) (fun n h0 h1 => by rw [IntKind.wrap_i64]; omega) 1 (x := y * 2) (y := 1)
  rw [h (by omega) (by omega) (by omega) (by omega) (by omega) (by omega)]
  omega
/-- One more digit of the quotient. -/
theorem dvs_step (a b d r : Int) (i : Nat) (h : a * 2 ^ i = d * b + r) (e : Int) : a * 2 ^ (i + 1) = (2 * d + e) * b + (2 * r - e * b) := by
  rw [Int.pow_succ, ← Int.mul_assoc, h, Int.add_mul, Int.add_mul, Int.mul_assoc 2 d b, Int.mul_comm 2 (d * b)]
  generalize d * b = x
  generalize e * b = y
  omega
theorem dvs_end (a b d r : Int) (hb : 0 < b) (h : a * 65536 = d * b + r) (h0 : 0 ≤ r) (h1 : r < b) : a * 65536 / b = d := by
  rw [h, Int.add_comm, Int.add_mul_ediv_right _ _ (by omega), Int.ediv_eq_zero_of_lt h0 h1]
  omega
set_option maxHeartbeats 1600000 in
theorem div_any (a b : Int) (w : World) (ha : 0 ≤ a) (hab : a ≤ b) (h1 : 0 < b) (h2 : b ≤ 9223372036854775807) :
    Calls Try.prog 27 #[.int .i64 a, .int .i64 b] w fun e w' => e = .returned (.int .i64 (a * 65536 / b)) ∧ w = w' := by
  have t0 : (b == 0) = false := by simp; omega
  have HF := hx (fun w => floor_nn a b w ha (by omega) h1 h2)
  have HR := hx (fun w => rest_nn a b w ha (by omega) h1 h2)
  have HA := hx (fun w => abs64_nn (a % b) w (Int.emod_nonneg a (by omega)) (by have := Int.emod_lt_of_pos a h1; omega))
  have HB := hx (fun w => abs64_nn b w (by omega) h2)
  have q0 := Int.ediv_nonneg ha (Int.le_of_lt h1)
  have q1 : a / b ≤ 1 := by
    have := Int.ediv_le_ediv h1 hab
    rw [Int.ediv_self (by omega)] at this
    exact this
  have r0 := Int.emod_nonneg a (show b ≠ 0 by omega)
  have r1 := Int.emod_lt_of_pos a h1
  have HE := hx (Int.mul_ediv_add_emod a b)
  have HD := hx (dvs_end a b)
  generalize a * 65536 / b = R at *
  generalize a / b = q at *
  generalize a % b = r at *
  go_enter Try.func27, Try.ntmps27
  go_wp2_with fail
  refine (HF.out _).mono ?_
  rintro e w1 ⟨rfl, rfl⟩
  go_wp2_with fail
  refine (HR.out _).mono ?_
  rintro e w1 ⟨rfl, rfl⟩
  go_wp2_with fail
  refine (HA.out _).mono ?_
  rintro e w1 ⟨rfl, rfl⟩
  go_wp2_with fail
  refine (HB.out _).mono ?_
  rintro e w1 ⟨rfl, rfl⟩
  go_wp2
  go_loop [6, 8, 26] (fun rv dv iv => ∃ (i : Nat) (d s : Int), i ≤ 16 ∧ iv = .int .i64 i ∧ rv = .int .u64 s ∧ dv = .int .i64 d ∧ 0 ≤ d ∧ d < 2 ^ i ∧ 0 ≤ s ∧ s < b ∧ r * 2 ^ i = d * b + s) (fun _ _ iv => 16 - (intOf iv).toNat)
  case atStart => exact ⟨0, 0, r, by omega, rfl, rfl, rfl, by omega, by simp, r0, r1, by simp⟩
  case round =>
    obtain ⟨i, d, s, hi, rfl, rfl, rfl, d0, d1, s0, s1, hds⟩ := hrel
    have HDS := hx hds
    have HD1 := hx d1
    clear hds
    by_cases hlt : i < 16
    · have hki : (i : Int) < 16 := by omega
      have d2 : d < 65536 := Int.lt_of_lt_of_le d1 (by
        have h := Nat.pow_le_pow_right (show 0 < 2 by omega) (show i ≤ 16 by omega)
        have e : ((2 : Int) ^ i) = ((2 ^ i : Nat) : Int) := by simp
        rw [e]; omega)
      clear d1
      have HP := hx (show (2 : Int) ^ (i + 1) = 2 * 2 ^ i by rw [Int.pow_succ]; omega)
      have HO := hx (or1 d d0 d2)
      by_cases hge : b ≤ 2 * s
      · have HS := hx (dvs_step r b d s i HDS.out 1)
        go_wp2
        go_round
        case rel => exact ⟨i + 1, 2 * d + 1, 2 * s - b, by omega, by go_num, by go_num, by rw [HO.out], by omega, by rw [HP.out]; have := HD1.out; omega, by omega, by omega, by have h := HS.out; rw [Int.one_mul] at h; exact h⟩
        case measure => simp [intOf] <;> omega
      · have HS := hx (dvs_step r b d s i HDS.out 0)
        go_wp2
        go_round
        case rel => exact ⟨i + 1, 2 * d, 2 * s, by omega, by go_num, by go_num, by go_num, by omega, by rw [HP.out]; have := HD1.out; omega, by omega, by omega, by have h := HS.out; rw [Int.zero_mul, Int.sub_zero, Int.add_zero] at h; exact h⟩
        case measure => simp [intOf] <;> omega
    · obtain rfl : i = 16 := by omega
      have hd16 : d < 65536 := by simpa using HD1.out
      have hR : R = q * 65536 + d := HD.out _ s h1 (by
        have h := HDS.out
        have e := HE.out
        rw [show (2 : Int) ^ 16 = 65536 by decide] at h
        rw [← e, Int.add_mul, h, Int.add_mul, Int.add_assoc, Int.mul_assoc, Int.mul_comm b, Int.mul_right_comm]) s0 s1
      clear d1
      go_wp2
      go_ret
      exact ⟨rfl, rfl⟩
end Go.Proofs.Ytgbikakhnmjllaa
