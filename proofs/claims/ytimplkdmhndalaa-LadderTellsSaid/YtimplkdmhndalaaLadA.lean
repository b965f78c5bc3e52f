import Derived.Test.YtimplkdmhndalaaWord
namespace Go.Proofs.Ytimplkdmhndalaa
open Go Go.RowKit
def cl4 (x : Int) : Int := if x < -400 then -400 else if 400 < x then 400 else x
def upc (m : Int) : Int := 480 * m * (800 - m)
def chance (x : Int) : Int := if cl4 x < 0 then 500 - upc (-cl4 x) / 160000 else 500 + upc (cl4 x) / 160000
theorem upc_bd (m : Int) (h0 : 0 ≤ m) (h1 : m ≤ 400) : 0 ≤ upc m ∧ upc m ≤ 76800000 := by
  unfold upc
  have e : 480 * m * (800 - m) = 480 * (m * (800 - m)) := Int.mul_assoc _ _ _
  have h2 : 0 ≤ m * (800 - m) := Int.mul_nonneg h0 (by omega)
  have h3 : 0 ≤ (400 - m) * (400 - m) := Int.mul_nonneg (by omega) (by omega)
  have e3 : (400 - m) * (400 - m) = 160000 - m * (800 - m) := by
    rw [Int.sub_mul, Int.mul_sub, Int.mul_sub, Int.mul_sub]; omega
  rw [e]
  omega
theorem cl4_bd (x : Int) : -400 ≤ cl4 x ∧ cl4 x ≤ 400 := by unfold cl4; omega
theorem chance_bd (x : Int) : 20 ≤ chance x ∧ chance x ≤ 980 ∧ (0 ≤ x → 500 ≤ chance x) ∧ (x ≤ 0 → chance x ≤ 500) := by
  have h := cl4_bd x
  have h1 := upc_bd (-cl4 x)
  have h2 := upc_bd (cl4 x)
  have h3 : x = 0 → upc (cl4 x) = 0 := by rintro rfl; rfl
  have h4 : 0 ≤ x → 0 ≤ cl4 x := by unfold cl4; omega
  have h5 : x < 0 → cl4 x < 0 := by unfold cl4; omega
  unfold chance
  split <;> omega
theorem chance_neg (x : Int) : chance x + chance (-x) = 1000 := by
  have e : cl4 (-x) = -cl4 x := by unfold cl4; omega
  unfold chance
  rw [e, Int.neg_neg]
  rcases Int.lt_trichotomy (cl4 x) 0 with h | h | h
  · rw [if_pos h, if_neg (by omega)]; omega
  · rw [h]; rfl
  · rw [if_neg (by omega), if_pos (by omega)]; omega
theorem chance_cl (x : Int) : chance (cl4 x) = chance x := by
  have e : cl4 (cl4 x) = cl4 x := by have := cl4_bd x; unfold cl4 at *; omega
  unfold chance
  rw [e]
theorem cl4_max (x : Int) : max (-400) (min x (max (-400) 400)) = cl4 x := by unfold cl4; omega
set_option maxHeartbeats 800000 in
theorem chance_any (x : Int) (w : World) :
    Calls Try.prog 30 #[.int .i64 x] w fun e w' => e = .returned (.int .i64 (chance x)) ∧ w = w' := by
  have hb := cl4_bd x
  have hm := Lib.hid (cl4_max x)
  go_enter Try.func30, Try.ntmps30
  go_wp2_with fail
  refine (clamp_any x (-400) 400 _).mono ?_
  rintro e w1 ⟨rfl, rfl⟩
  rw [hm.out]
  by_cases hn : cl4 x < 0
  · have hu := upc_bd (-cl4 x) (by omega) (by omega)
    have hch := Lib.hid (show chance x = 500 - upc (-cl4 x) / 160000 by unfold chance; rw [if_pos hn])
    have hup : 480 * -cl4 x * (800 + cl4 x) = upc (-cl4 x) := by unfold upc; rw [Int.sub_neg]
    generalize cl4 x = n at *
    generalize upc (-n) = u at *
    obtain ⟨hu0, hu1⟩ := hu
    have hlt : n < -n := by omega
    go_wp2
    go_ret
    exact ⟨by rw [hch.out]; rfl, rfl⟩
  · have hu := upc_bd (cl4 x) (by omega) (by omega)
    have hch := Lib.hid (show chance x = 500 + upc (cl4 x) / 160000 by unfold chance; rw [if_neg hn])
    have hup : 480 * cl4 x * (800 - cl4 x) = upc (cl4 x) := rfl
    generalize cl4 x = n at *
    generalize upc n = u at *
    obtain ⟨hu0, hu1⟩ := hu
    by_cases h0 : n = 0
    · subst h0
      go_wp2
      go_ret
      exact ⟨by rw [hch.out]; exact ret_int (by omega), rfl⟩
    · have hlt : -n < n := by omega
      go_wp2
      go_ret
      exact ⟨by rw [hch.out]; rfl, rfl⟩
set_option maxHeartbeats 800000 in
theorem rchance_any (x : Int) (w : World) :
    Calls Try.prog 36 #[.int .i64 x] w fun e w' => e = .returned (.int .i64 (chance x)) ∧ w = w' := by
  rcases Int.lt_or_le x (-400) with h1 | h1
  · have hch := Lib.hid (show chance x = 20 by unfold chance; rw [show cl4 x = -400 by unfold cl4; omega]; rfl)
    go_enter Try.func36, Try.ntmps36
    go_wp2
    go_ret
    exact ⟨by rw [hch.out]; exact ret_int (by decide), rfl⟩
  · rcases Int.lt_or_le 400 x with h2 | h2
    · have hch := Lib.hid (show chance x = 980 by unfold chance; rw [show cl4 x = 400 by unfold cl4; omega]; rfl)
      go_enter Try.func36, Try.ntmps36
      go_wp2
      go_ret
      exact ⟨by rw [hch.out]; exact ret_int (by decide), rfl⟩
    · have e : cl4 x = x := by unfold cl4; omega
      by_cases hn : x < 0
      · obtain ⟨hu0, hu1⟩ := upc_bd (-x) (by omega) (by omega)
        have hch := Lib.hid (show chance x = 500 - upc (-x) / 160000 by unfold chance; rw [e, if_pos hn])
        have hup : 480 * -x * (800 + x) = upc (-x) := by unfold upc; rw [Int.sub_neg]
        clear e
        generalize upc (-x) = u at *
        go_enter Try.func36, Try.ntmps36
        go_wp2
        all_goals
          go_ret
          exact ⟨by rw [hch.out]; rfl, rfl⟩
      · obtain ⟨hu0, hu1⟩ := upc_bd x (by omega) (by omega)
        have hch := Lib.hid (show chance x = 500 + upc x / 160000 by unfold chance; rw [e, if_neg hn])
        have hup : 480 * x * (800 - x) = upc x := rfl
        clear e
        generalize upc x = u at *
        go_enter Try.func36, Try.ntmps36
        go_wp2
        all_goals
          go_ret
          exact ⟨by rw [hch.out]; rfl, rfl⟩
/-- What a game changes. -/
def changeI (a b e : Int) : Int := flo (32 * (500 * e - chance (hold (a - b))) + 500) 1000
theorem change_bad (a b e : Int) (w : World) (he : e < 0 ∨ 2 < e) :
    Calls Try.prog 15 #[.int .i64 a, .int .i64 b, .int .i64 e] w fun r w' => r = .returned (.tuple #[.int .i64 0, .int .i64 1]) ∧ w = w' := by
  rcases he with h | h
  · go_enter Try.func15, Try.ntmps15
    go_wp2
    go_ret2
    exact ⟨rfl, rfl⟩
  · have g : decide (e < 0) = false := by simp; omega
    go_enter Try.func15, Try.ntmps15
    go_wp2
    go_ret2
    exact ⟨rfl, rfl⟩
set_option maxHeartbeats 800000 in
theorem change_any (a b e : Int) (w : World) (ha : Fits a) (hb : Fits b) (h0 : 0 ≤ e) (h2 : e ≤ 2) :
    Calls Try.prog 15 #[.int .i64 a, .int .i64 b, .int .i64 e] w fun r w' => r = .returned (.tuple #[.int .i64 (changeI a b e), .int .i64 0]) ∧ w = w' := by
  have g : decide (e < 0) = false := by simp; omega
  have g2 : ¬ 2 < e := by omega
  have hs := Lib.hid (fun w => wsub_any a b w ha hb)
  have hm := Lib.hid (cl4_max (hold (a - b)))
  have hc := Lib.hid (chance_cl (hold (a - b)))
  have hcb := chance_bd (hold (a - b))
  have hf : Hid (changeI a b e = flo (32 * (500 * e - chance (hold (a - b))) + 500) 1000) := rfl
  generalize hold (a - b) = x at *
  clear ha hb
  go_enter Try.func15, Try.ntmps15
  go_wp2_with fail
  refine (hs.out _).mono ?_
  rintro r w1 ⟨rfl, rfl⟩
  go_wp2_with fail
  refine (clamp_any x (-400) 400 _).mono ?_
  rintro r w1 ⟨rfl, rfl⟩
  rw [hm.out]
  go_wp2_with fail
  refine (chance_any (cl4 x) _).mono ?_
  rintro r w1 ⟨rfl, rfl⟩
  rw [hc.out]
  generalize chance x = c at *
  obtain ⟨c1, c2, _, _⟩ := hcb
  go_wp2_with fail
  refine (floor_any _ 1000 _ ⟨by omega, by omega⟩ (by omega) (by omega)).mono ?_
  rintro r w1 ⟨rfl, rfl⟩
  go_wp2
  go_ret2
  exact ⟨by rw [hf.out]; rfl, rfl⟩
theorem rchange_bad (a b e : Int) (w : World) (he : e < 0 ∨ 2 < e) :
    Calls Try.prog 18 #[.int .i64 a, .int .i64 b, .int .i64 e] w fun r w' => r = .returned (.tuple #[.int .i64 0, .int .i64 1]) ∧ w = w' := by
  rcases he with h | h
  · go_enter Try.func18, Try.ntmps18
    go_wp2
    go_ret2
    exact ⟨rfl, rfl⟩
  · have g : decide (e < 0) = false := by simp; omega
    go_enter Try.func18, Try.ntmps18
    go_wp2
    go_ret2
    exact ⟨rfl, rfl⟩
set_option maxHeartbeats 800000 in
theorem rchange_any (a b e : Int) (w : World) (ha : Fits a) (hb : Fits b) (h0 : 0 ≤ e) (h2 : e ≤ 2) :
    Calls Try.prog 18 #[.int .i64 a, .int .i64 b, .int .i64 e] w fun r w' => r = .returned (.tuple #[.int .i64 (changeI a b e), .int .i64 0]) ∧ Kept [] w w' := by
  have g : decide (e < 0) = false := by simp; omega
  have g2 : ¬ 2 < e := by omega
  have hs := Lib.hid (fun w => rsub_any a b w ha hb)
  have hcb := chance_bd (hold (a - b))
  have hf : Hid (changeI a b e = flo (32 * (500 * e - chance (hold (a - b))) + 500) 1000) := rfl
  generalize hold (a - b) = x at *
  clear ha hb
  go_enter Try.func18, Try.ntmps18
  go_wp2_with fail
  refine (hs.out _).mono ?_
  rintro r w1 ⟨rfl, hk1⟩
  go_wp2_with fail
  refine (rchance_any x _).mono ?_
  rintro r w2 ⟨rfl, rfl⟩
  generalize chance x = c at *
  obtain ⟨c1, c2, _, _⟩ := hcb
  go_wp2_with fail
  refine (rfloor_any _ 1000 _ ⟨by omega, by omega⟩ (by omega) (by omega)).mono ?_
  rintro r w2 ⟨rfl, rfl⟩
  go_wp2
  go_ret2
  exact ⟨by rw [hf.out]; rfl, hk1⟩
theorem lawake_any (w : World) : Calls Try.prog 4 #[] w fun r w' => r = .returned (.bool true) ∧ w = w' := by
  have hv := Lib.hid (show changeI 1500 1500 2 = 16 by decide +kernel)
  go_enter Try.func4, Try.ntmps4
  go_wp2_with fail
  refine (change_any 1500 1500 2 _ ⟨by omega, by omega⟩ ⟨by omega, by omega⟩ (by omega) (by omega)).mono ?_
  rintro r w1 ⟨rfl, rfl⟩
  rw [hv.out]
  go_wp2
  go_ret
  exact ⟨rfl, rfl⟩
end Go.Proofs.Ytimplkdmhndalaa
