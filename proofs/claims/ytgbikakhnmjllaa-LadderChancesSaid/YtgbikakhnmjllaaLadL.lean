import Derived.Test.YtgbikakhnmjllaaLadA
namespace Go.Proofs.Ytgbikakhnmjllaa
open Go Go.RowKit
set_option maxRecDepth 100000 in
set_option maxHeartbeats 1600000 in
theorem chances_neg (a b e : Int) (w : World) (ha : Fits a) (hb : Fits b) (hn : a < -1000) :
    Calls Try.prog 3 #[.int .i64 a, .int .i64 b, .int .i64 e] w fun r w' => r = .returned (.bool true) ∧ Kept [] w w' := by
  have hcb := chance_bd a
  have hneg := Lib.hid (chance_neg a)
  obtain ⟨c1, c2, c3, c4⟩ := hcb
  have e1 : decide (0 ≤ a) = false := by simp; omega
  have e2 : decide (500 < chance a) = false := by have := c4 (by omega); simp; omega
  have d1 : decide (chance a < 20) = false := by simp; omega
  have d2 : decide (980 < chance a) = false := by simp; omega
  by_cases hr : e < 0 ∨ 2 < e
  · have hr' := Lib.hid hr
    clear hr
    go_enter Try.func3, Try.ntmps3
    go_wp2_with fail
    refine (lawake_any _).mono ?_
    rintro r w1 ⟨rfl, rfl⟩
    go_wp2_with fail
    refine (change_bad a b e _ hr'.out).mono ?_
    rintro r w1 ⟨rfl, rfl⟩
    go_wp2_with fail
    refine (rchange_bad a b e _ hr'.out).mono ?_
    rintro r w1 ⟨rfl, rfl⟩
    have hk := Kept.refl [] w
    go_wp2_with fail
    refine (chance_any a _).mono ?_
    rintro r w2 ⟨rfl, rfl⟩
    go_wp2_with fail
    refine (rchance_any a _).mono ?_
    rintro r w2 ⟨rfl, rfl⟩
    generalize hcc : chance a = c at *
    have hcc' := Lib.hid hcc
    clear hcc
    clear c1 c2 c3 c4
    go_wp2
    go_ret
    exact ⟨rfl, hk⟩
  · have h0 : 0 ≤ e := by omega
    have h2 : e ≤ 2 := by omega
    clear hr
    go_enter Try.func3, Try.ntmps3
    go_wp2_with fail
    refine (lawake_any _).mono ?_
    rintro r w1 ⟨rfl, rfl⟩
    go_wp2_with fail
    refine (change_any a b e _ ha hb h0 h2).mono ?_
    rintro r w1 ⟨rfl, rfl⟩
    go_wp2_with fail
    refine (rchange_any a b e _ ha hb h0 h2).mono ?_
    rintro r w1 ⟨rfl, hk⟩
    go_wp2_with fail
    refine (chance_any a _).mono ?_
    rintro r w2 ⟨rfl, rfl⟩
    go_wp2_with fail
    refine (rchance_any a _).mono ?_
    rintro r w2 ⟨rfl, rfl⟩
    generalize hcc : chance a = c at *
    have hcc' := Lib.hid hcc
    clear hcc
    clear c1 c2 c3 c4
    go_wp2
    go_ret
    exact ⟨rfl, hk⟩
set_option maxRecDepth 100000 in
set_option maxHeartbeats 1600000 in
theorem chances_big (a b e : Int) (w : World) (ha : Fits a) (hb : Fits b) (hn : 1000 < a) :
    Calls Try.prog 3 #[.int .i64 a, .int .i64 b, .int .i64 e] w fun r w' => r = .returned (.bool true) ∧ Kept [] w w' := by
  have hcb := chance_bd a
  have hneg := Lib.hid (chance_neg a)
  obtain ⟨c1, c2, c3, c4⟩ := hcb
  have e1 : decide (a ≤ 0) = false := by simp; omega
  have e2 : decide (chance a < 500) = false := by have := c3 (by omega); simp; omega
  have e3 : decide (a < -1000) = false := by simp; omega
  have d1 : decide (chance a < 20) = false := by simp; omega
  have d2 : decide (980 < chance a) = false := by simp; omega
  by_cases hr : e < 0 ∨ 2 < e
  · have hr' := Lib.hid hr
    clear hr
    go_enter Try.func3, Try.ntmps3
    go_wp2_with fail
    refine (lawake_any _).mono ?_
    rintro r w1 ⟨rfl, rfl⟩
    go_wp2_with fail
    refine (change_bad a b e _ hr'.out).mono ?_
    rintro r w1 ⟨rfl, rfl⟩
    go_wp2_with fail
    refine (rchange_bad a b e _ hr'.out).mono ?_
    rintro r w1 ⟨rfl, rfl⟩
    have hk := Kept.refl [] w
    go_wp2_with fail
    refine (chance_any a _).mono ?_
    rintro r w2 ⟨rfl, rfl⟩
    go_wp2_with fail
    refine (rchance_any a _).mono ?_
    rintro r w2 ⟨rfl, rfl⟩
    generalize hcc : chance a = c at *
    have hcc' := Lib.hid hcc
    clear hcc
    clear c1 c2 c3 c4
    go_wp2
    go_ret
    exact ⟨rfl, hk⟩
  · have h0 : 0 ≤ e := by omega
    have h2 : e ≤ 2 := by omega
    clear hr
    go_enter Try.func3, Try.ntmps3
    go_wp2_with fail
    refine (lawake_any _).mono ?_
    rintro r w1 ⟨rfl, rfl⟩
    go_wp2_with fail
    refine (change_any a b e _ ha hb h0 h2).mono ?_
    rintro r w1 ⟨rfl, rfl⟩
    go_wp2_with fail
    refine (rchange_any a b e _ ha hb h0 h2).mono ?_
    rintro r w1 ⟨rfl, hk⟩
    go_wp2_with fail
    refine (chance_any a _).mono ?_
    rintro r w2 ⟨rfl, rfl⟩
    go_wp2_with fail
    refine (rchance_any a _).mono ?_
    rintro r w2 ⟨rfl, rfl⟩
    generalize hcc : chance a = c at *
    have hcc' := Lib.hid hcc
    clear hcc
    clear c1 c2 c3 c4
    go_wp2
    go_ret
    exact ⟨rfl, hk⟩
set_option maxRecDepth 100000 in
set_option maxHeartbeats 1600000 in
theorem chances_mn (a b e : Int) (w : World) (ha : Fits a) (hb : Fits b) (hn : a < 0) (hm : -1000 ≤ a) :
    Calls Try.prog 3 #[.int .i64 a, .int .i64 b, .int .i64 e] w fun r w' => r = .returned (.bool true) ∧ Kept [] w w' := by
  have hcb := chance_bd a
  have hneg := Lib.hid (chance_neg a)
  obtain ⟨c1, c2, c3, c4⟩ := hcb
  have e1 : decide (0 ≤ a) = false := by simp; omega
  have e2 : decide (500 < chance a) = false := by have := c4 (by omega); simp; omega
  have e3 : decide (a < -1000) = false := by simp; omega
  have e4 : decide (1000 < a) = false := by simp; omega
  have d1 : decide (chance a < 20) = false := by simp; omega
  have d2 : decide (980 < chance a) = false := by simp; omega
  by_cases hr : e < 0 ∨ 2 < e
  · have hr' := Lib.hid hr
    clear hr
    go_enter Try.func3, Try.ntmps3
    go_wp2_with fail
    refine (lawake_any _).mono ?_
    rintro r w1 ⟨rfl, rfl⟩
    go_wp2_with fail
    refine (change_bad a b e _ hr'.out).mono ?_
    rintro r w1 ⟨rfl, rfl⟩
    go_wp2_with fail
    refine (rchange_bad a b e _ hr'.out).mono ?_
    rintro r w1 ⟨rfl, rfl⟩
    have hk := Kept.refl [] w
    go_wp2_with fail
    refine (chance_any a _).mono ?_
    rintro r w2 ⟨rfl, rfl⟩
    go_wp2_with fail
    refine (rchance_any a _).mono ?_
    rintro r w2 ⟨rfl, rfl⟩
    generalize hcc : chance a = c at *
    have hcc' := Lib.hid hcc
    clear hcc
    clear c3 c4
    go_wp2_with fail
    refine (chance_any (-a) _).mono ?_
    rintro r w2 ⟨rfl, rfl⟩
    have hsum := hneg.out
    generalize chance (-a) = d at *
    have hd : c + d = 1000 := hsum
    have ho : ((c + d : Int) == 1000) = true := by rw [hd]; rfl
    have d3 : 20 ≤ d := by omega
    have d4 : d ≤ 980 := by omega
    clear hsum hd hneg
    go_wp2
    go_ret
    exact ⟨rfl, hk⟩
  · have h0 : 0 ≤ e := by omega
    have h2 : e ≤ 2 := by omega
    clear hr
    go_enter Try.func3, Try.ntmps3
    go_wp2_with fail
    refine (lawake_any _).mono ?_
    rintro r w1 ⟨rfl, rfl⟩
    go_wp2_with fail
    refine (change_any a b e _ ha hb h0 h2).mono ?_
    rintro r w1 ⟨rfl, rfl⟩
    go_wp2_with fail
    refine (rchange_any a b e _ ha hb h0 h2).mono ?_
    rintro r w1 ⟨rfl, hk⟩
    go_wp2_with fail
    refine (chance_any a _).mono ?_
    rintro r w2 ⟨rfl, rfl⟩
    go_wp2_with fail
    refine (rchance_any a _).mono ?_
    rintro r w2 ⟨rfl, rfl⟩
    generalize hcc : chance a = c at *
    have hcc' := Lib.hid hcc
    clear hcc
    clear c3 c4
    go_wp2_with fail
    refine (chance_any (-a) _).mono ?_
    rintro r w2 ⟨rfl, rfl⟩
    have hsum := hneg.out
    generalize chance (-a) = d at *
    have hd : c + d = 1000 := hsum
    have ho : ((c + d : Int) == 1000) = true := by rw [hd]; rfl
    have d3 : 20 ≤ d := by omega
    have d4 : d ≤ 980 := by omega
    clear hsum hd hneg
    go_wp2
    go_ret
    exact ⟨rfl, hk⟩
set_option maxRecDepth 100000 in
set_option maxHeartbeats 1600000 in
theorem chances_mp (a b e : Int) (w : World) (ha : Fits a) (hb : Fits b) (hn : 0 < a) (hm : a ≤ 1000) :
    Calls Try.prog 3 #[.int .i64 a, .int .i64 b, .int .i64 e] w fun r w' => r = .returned (.bool true) ∧ Kept [] w w' := by
  have hcb := chance_bd a
  have hneg := Lib.hid (chance_neg a)
  obtain ⟨c1, c2, c3, c4⟩ := hcb
  have e1 : decide (a ≤ 0) = false := by simp; omega
  have e2 : decide (chance a < 500) = false := by have := c3 (by omega); simp; omega
  have e3 : decide (a < -1000) = false := by simp; omega
  have e4 : decide (1000 < a) = false := by simp; omega
  have d1 : decide (chance a < 20) = false := by simp; omega
  have d2 : decide (980 < chance a) = false := by simp; omega
  by_cases hr : e < 0 ∨ 2 < e
  · have hr' := Lib.hid hr
    clear hr
    go_enter Try.func3, Try.ntmps3
    go_wp2_with fail
    refine (lawake_any _).mono ?_
    rintro r w1 ⟨rfl, rfl⟩
    go_wp2_with fail
    refine (change_bad a b e _ hr'.out).mono ?_
    rintro r w1 ⟨rfl, rfl⟩
    go_wp2_with fail
    refine (rchange_bad a b e _ hr'.out).mono ?_
    rintro r w1 ⟨rfl, rfl⟩
    have hk := Kept.refl [] w
    go_wp2_with fail
    refine (chance_any a _).mono ?_
    rintro r w2 ⟨rfl, rfl⟩
    go_wp2_with fail
    refine (rchance_any a _).mono ?_
    rintro r w2 ⟨rfl, rfl⟩
    generalize hcc : chance a = c at *
    have hcc' := Lib.hid hcc
    clear hcc
    clear c3 c4
    go_wp2_with fail
    refine (chance_any (-a) _).mono ?_
    rintro r w2 ⟨rfl, rfl⟩
    have hsum := hneg.out
    generalize chance (-a) = d at *
    have hd : c + d = 1000 := hsum
    have ho : ((c + d : Int) == 1000) = true := by rw [hd]; rfl
    have d3 : 20 ≤ d := by omega
    have d4 : d ≤ 980 := by omega
    clear hsum hd hneg
    go_wp2
    go_ret
    exact ⟨rfl, hk⟩
  · have h0 : 0 ≤ e := by omega
    have h2 : e ≤ 2 := by omega
    clear hr
    go_enter Try.func3, Try.ntmps3
    go_wp2_with fail
    refine (lawake_any _).mono ?_
    rintro r w1 ⟨rfl, rfl⟩
    go_wp2_with fail
    refine (change_any a b e _ ha hb h0 h2).mono ?_
    rintro r w1 ⟨rfl, rfl⟩
    go_wp2_with fail
    refine (rchange_any a b e _ ha hb h0 h2).mono ?_
    rintro r w1 ⟨rfl, hk⟩
    go_wp2_with fail
    refine (chance_any a _).mono ?_
    rintro r w2 ⟨rfl, rfl⟩
    go_wp2_with fail
    refine (rchance_any a _).mono ?_
    rintro r w2 ⟨rfl, rfl⟩
    generalize hcc : chance a = c at *
    have hcc' := Lib.hid hcc
    clear hcc
    clear c3 c4
    go_wp2_with fail
    refine (chance_any (-a) _).mono ?_
    rintro r w2 ⟨rfl, rfl⟩
    have hsum := hneg.out
    generalize chance (-a) = d at *
    have hd : c + d = 1000 := hsum
    have ho : ((c + d : Int) == 1000) = true := by rw [hd]; rfl
    have d3 : 20 ≤ d := by omega
    have d4 : d ≤ 980 := by omega
    clear hsum hd hneg
    go_wp2
    go_ret
    exact ⟨rfl, hk⟩
set_option maxRecDepth 100000 in
set_option maxHeartbeats 1600000 in
theorem chances_z (b e : Int) (w : World) (hb : Fits b)  :
    Calls Try.prog 3 #[.int .i64 0, .int .i64 b, .int .i64 e] w fun r w' => r = .returned (.bool true) ∧ Kept [] w w' := by
  have hcb := chance_bd 0
  have hneg := Lib.hid (chance_neg 0)
  obtain ⟨c1, c2, c3, c4⟩ := hcb
  have h500 : chance 0 = 500 := by have := c3 (by omega); have := c4 (by omega); omega
  have d1 : decide (chance 0 < 20) = false := by simp; omega
  have d2 : decide (980 < chance 0) = false := by simp; omega
  by_cases hr : e < 0 ∨ 2 < e
  · have hr' := Lib.hid hr
    clear hr
    go_enter Try.func3, Try.ntmps3
    go_wp2_with fail
    refine (lawake_any _).mono ?_
    rintro r w1 ⟨rfl, rfl⟩
    go_wp2_with fail
    refine (change_bad 0 b e _ hr'.out).mono ?_
    rintro r w1 ⟨rfl, rfl⟩
    go_wp2_with fail
    refine (rchange_bad 0 b e _ hr'.out).mono ?_
    rintro r w1 ⟨rfl, rfl⟩
    have hk := Kept.refl [] w
    go_wp2_with fail
    refine (chance_any 0 _).mono ?_
    rintro r w2 ⟨rfl, rfl⟩
    go_wp2_with fail
    refine (rchance_any 0 _).mono ?_
    rintro r w2 ⟨rfl, rfl⟩
    generalize hcc : chance 0 = c at *
    have hcc' := Lib.hid hcc
    clear hcc
    clear c3 c4
    have hc5 : c = 500 := h500
    have ho : ((c + c : Int) == 1000) = true := by rw [hc5]; rfl
    have c6 : decide (500 < c) = false := by simp; omega
    have c7 : decide (c < 500) = false := by simp; omega
    clear hc5 h500
    go_wp2_with fail
    refine (chance_any 0 _).mono ?_
    rintro r w2 ⟨rfl, rfl⟩
    rw [hcc'.out]
    go_wp2
    go_ret
    exact ⟨rfl, hk⟩
  · have h0 : 0 ≤ e := by omega
    have h2 : e ≤ 2 := by omega
    clear hr
    go_enter Try.func3, Try.ntmps3
    go_wp2_with fail
    refine (lawake_any _).mono ?_
    rintro r w1 ⟨rfl, rfl⟩
    go_wp2_with fail
    refine (change_any 0 b e _ ⟨by omega, by omega⟩ hb h0 h2).mono ?_
    rintro r w1 ⟨rfl, rfl⟩
    go_wp2_with fail
    refine (rchange_any 0 b e _ ⟨by omega, by omega⟩ hb h0 h2).mono ?_
    rintro r w1 ⟨rfl, hk⟩
    go_wp2_with fail
    refine (chance_any 0 _).mono ?_
    rintro r w2 ⟨rfl, rfl⟩
    go_wp2_with fail
    refine (rchance_any 0 _).mono ?_
    rintro r w2 ⟨rfl, rfl⟩
    generalize hcc : chance 0 = c at *
    have hcc' := Lib.hid hcc
    clear hcc
    clear c3 c4
    have hc5 : c = 500 := h500
    have ho : ((c + c : Int) == 1000) = true := by rw [hc5]; rfl
    have c6 : decide (500 < c) = false := by simp; omega
    have c7 : decide (c < 500) = false := by simp; omega
    clear hc5 h500
    go_wp2_with fail
    refine (chance_any 0 _).mono ?_
    rintro r w2 ⟨rfl, rfl⟩
    rw [hcc'.out]
    go_wp2
    go_ret
    exact ⟨rfl, hk⟩
end Go.Proofs.Ytgbikakhnmjllaa
namespace Go.Proofs.Ytgbikakhnmjllaa
theorem int_i64' {a : Int} (h : (Lit.int .i64 a).wf = true) : Fits a := by
  simp [Lit.wf, IntKind.min, IntKind.max, IntKind.signed, IntKind.bits] at h
  exact ⟨by omega, by omega⟩
end Go.Proofs.Ytgbikakhnmjllaa
