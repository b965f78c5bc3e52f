import Derived.Test.YtimplkdmhndalaaWideS
namespace Go.Proofs.Ytimplkdmhndalaa
open Go Go.RowKit
/-- A number, held at the limits. -/
def hold (x : Int) : Int := if x < -9223372036854775808 then -9223372036854775808 else if 9223372036854775807 < x then 9223372036854775807 else x
/-- The four lowest pieces. -/
def low4 (n : Nat) : Nat := n % 18446744073709551616
theorem low4_lt (n : Nat) : low4 n < 18446744073709551616 := Nat.mod_lt _ (by omega)
theorem low4_dig (n i : Nat) (h : i < 4) : low4 n / 65536 ^ i % 65536 = dig n i := by
  have : i = 0 ∨ i = 1 ∨ i = 2 ∨ i = 3 := by omega
  unfold low4 dig
  rcases this with rfl | rfl | rfl | rfl <;> simp <;> omega
theorem low4_next (n i : Nat) (h : i < 4) : low4 n / 65536 ^ i = low4 n / 65536 ^ (i + 1) * 65536 + dig n i := by
  have h1 := div_next (low4 n) i
  have h2 := low4_dig n i h
  omega
theorem small_of (n : Nat) (h9 : n < 65536 ^ 9) (h4 : dig n 4 = 0) (h5 : dig n 5 = 0) (h6 : dig n 6 = 0) (h7 : dig n 7 = 0) (h8 : dig n 8 = 0) : n < 18446744073709551616 := by
  have e8 := div_next n 8
  have e7 := div_next n 7
  have e6 := div_next n 6
  have e5 := div_next n 5
  have e4 := div_next n 4
  have e9 : n / 65536 ^ (8 + 1) = 0 := Nat.div_eq_of_lt h9
  unfold dig at *
  have h : n / 65536 ^ 4 = 0 := by omega
  rcases Nat.lt_or_ge n (65536 ^ 4) with g | g
  · exact g
  · have := Nat.div_le_div_right (c := 65536 ^ 4) g
    rw [h, Nat.div_self (pw_pos 4)] at this
    omega
theorem big_of (n i : Nat) (hi : 4 ≤ i) (h : 0 < dig n i) : 18446744073709551616 ≤ n := by
  rcases Nat.lt_or_ge n 18446744073709551616 with g | g
  · have := dig_zero' g hi
    omega
  · exact g
set_option maxRecDepth 100000 in
set_option maxHeartbeats 800000 in
theorem held_small (neg : Bool) (N : Nat) (hN : N < 18446744073709551616) (w : World) :
    Calls Try.prog 42 #[.agg (wide neg N).toArray] w fun e w' => e = .returned (.int .i64 (hold (wval neg N))) ∧ Kept [] w w' := by
  have hb0 := Blk.new w (wide neg N) 83
  have g4 : dig N 4 = 0 := dig_zero' hN (by omega)
  have g5 : dig N 5 = 0 := dig_zero' hN (by omega)
  have g6 : dig N 6 = 0 := dig_zero' hN (by omega)
  have g7 : dig N 7 = 0 := dig_zero' hN (by omega)
  have g8 : dig N 8 = 0 := dig_zero' hN (by omega)
  have c4 : (w.alloc (.cells (wide neg N).toArray 83)).cell? ⟨w.heap.size, 1 + 4, none⟩ = some (.int .u64 0) := by have h := hb0.cell (wideF_get neg (dig N) (show 4 < 9 by omega)); rw [g4] at h; exact h
  have c5 : (w.alloc (.cells (wide neg N).toArray 83)).cell? ⟨w.heap.size, 1 + 5, none⟩ = some (.int .u64 0) := by have h := hb0.cell (wideF_get neg (dig N) (show 5 < 9 by omega)); rw [g5] at h; exact h
  have c6 : (w.alloc (.cells (wide neg N).toArray 83)).cell? ⟨w.heap.size, 1 + 6, none⟩ = some (.int .u64 0) := by have h := hb0.cell (wideF_get neg (dig N) (show 6 < 9 by omega)); rw [g6] at h; exact h
  have c7 : (w.alloc (.cells (wide neg N).toArray 83)).cell? ⟨w.heap.size, 1 + 7, none⟩ = some (.int .u64 0) := by have h := hb0.cell (wideF_get neg (dig N) (show 7 < 9 by omega)); rw [g7] at h; exact h
  have c8 : (w.alloc (.cells (wide neg N).toArray 83)).cell? ⟨w.heap.size, 1 + 8, none⟩ = some (.int .u64 0) := by have h := hb0.cell (wideF_get neg (dig N) (show 8 < 9 by omega)); rw [g8] at h; exact h
  have hN' := Lib.hid hN
  clear hN g4 g5 g6 g7 g8
  go_enter Try.func42, Try.ntmps42
  go_wp2
  go_loop [3, 5] (fun u i => ∃ m : Nat, m ≤ 4 ∧ i = .int .i64 ((m : Int) - 1) ∧ u = .int .u64 ((low4 N / 65536 ^ m : Nat) : Int)) (fun _ i => (intOf i + 1).toNat)
  case atStart => exact ⟨4, by omega, rfl, by rw [Nat.div_eq_of_lt (low4_lt N)]; rfl⟩
  case round =>
    obtain ⟨m, hm, rfl, rfl⟩ := hrel
    clear c4 c5 c6 c7 c8
    by_cases hm0 : m = 0
    · subst hm0
      rw [Nat.pow_zero, Nat.div_one]
      have hl := low4_lt N
      have c0 := hb0.cell (wideF_0 neg (dig N))
      have hln : low4 N = N := Nat.mod_eq_of_lt hN'.out
      rw [hln]
      clear hl hln
      have hNN := hN'.out
      by_cases hsm : N < 9223372036854775808
      · have w1 : IntKind.i64.wrap (N : Int) = (N : Int) := by rw [IntKind.wrap_i64]; omega
        have w2 : IntKind.i64.wrap (-(N : Int)) = -(N : Int) := by rw [IntKind.wrap_i64]; omega
        have d1 : decide ((9223372036854775808 : Int) ≤ (N : Int)) = false := by simp; omega
        have d2 : decide ((9223372036854775807 : Int) < (N : Int)) = false := by simp; omega
        have hh := Lib.hid (show hold (wval neg N) = if neg then -(N : Int) else N by unfold hold wval; cases neg <;> simp <;> omega)
        clear hsm
        cases neg
        · go_wp2
          go_ret
          exact ⟨by rw [hh.out]; rfl, (Kept.refl _ _).alloc _⟩
        · go_wp2
          go_ret
          exact ⟨by rw [hh.out]; rfl, (Kept.refl _ _).alloc _⟩
      · have d1 : decide ((9223372036854775808 : Int) ≤ (N : Int)) = true := by simp; omega
        have d2 : decide ((9223372036854775807 : Int) < (N : Int)) = true := by simp; omega
        have hh := Lib.hid (show hold (wval neg N) = if neg then -9223372036854775808 else 9223372036854775807 by unfold hold wval; cases neg <;> simp <;> omega)
        clear hsm
        cases neg
        · go_wp2
          go_ret
          exact ⟨by rw [hh.out]; rfl, (Kept.refl _ _).alloc _⟩
        · go_wp2
          go_ret
          exact ⟨by rw [hh.out]; rfl, (Kept.refl _ _).alloc _⟩
    · obtain ⟨k, rfl⟩ : ∃ k, m = k + 1 := ⟨m - 1, by omega⟩
      have e1 : ((k + 1 : Nat) : Int) - 1 = (k : Int) := by omega
      rw [e1]
      clear e1
      have hx := Nat.lt_of_le_of_lt (Nat.div_le_self (low4 N) (65536 ^ k)) (low4_lt N)
      have hn := Lib.hid (low4_next N k (by omega))
      have hn2 := hn.out
      have hy := dig_lt N k
      have cc : (w.alloc (.cells (wide neg N).toArray 83)).cell? ⟨w.heap.size, 1 + k, none⟩ = some (.int .u64 (dig N k : Nat)) := hb0.cell (wideF_get neg (dig N) (by omega))
      generalize low4 N / 65536 ^ (k + 1) = u at *
      generalize dig N k = d at *
      have hu : u < 281474976710656 := by omega
      clear hn2 hx
      go_wp2
      go_round
      case rel => exact ⟨k, by omega, rfl, by rw [hn.out]; simp⟩
      case measure => simp [intOf] <;> omega
set_option maxRecDepth 100000 in
set_option maxHeartbeats 800000 in
theorem held_big4 (neg : Bool) (N : Nat) (gp : 0 < dig N 4) (w : World) :
    Calls Try.prog 42 #[.agg (wide neg N).toArray] w fun e w' => e = .returned (.int .i64 (hold (wval neg N))) ∧ Kept [] w w' := by
  have hb0 := Blk.new w (wide neg N) 83
  have hN := big_of N 4 (by omega) gp
  have c4 : (w.alloc (.cells (wide neg N).toArray 83)).cell? ⟨w.heap.size, 1 + 4, none⟩ = some (.int .u64 (dig N 4 : Nat)) := hb0.cell (wideF_get neg (dig N) (show 4 < 9 by omega))
  have t4 : (0 : Int) < (dig N 4 : Nat) := by omega
  have hN' := Lib.hid hN
  clear hN 
  go_enter Try.func42, Try.ntmps42
  go_wp2
  go_loop [3, 5] (fun u i => ∃ m : Nat, m ≤ 4 ∧ i = .int .i64 ((m : Int) - 1) ∧ u = .int .u64 ((low4 N / 65536 ^ m : Nat) : Int)) (fun _ i => (intOf i + 1).toNat)
  case atStart => exact ⟨4, by omega, rfl, by rw [Nat.div_eq_of_lt (low4_lt N)]; rfl⟩
  case round =>
    obtain ⟨m, hm, rfl, rfl⟩ := hrel
    clear c4 t4 gp
    by_cases hm0 : m = 0
    · subst hm0
      rw [Nat.pow_zero, Nat.div_one]
      have hl := low4_lt N
      have c0 := hb0.cell (wideF_0 neg (dig N))
      have hNN := hN'.out
      have hh := Lib.hid (show hold (wval neg N) = if neg then -9223372036854775808 else 9223372036854775807 by unfold hold wval; cases neg <;> simp <;> omega)
      clear hNN
      cases neg
      · go_wp2
        go_ret
        exact ⟨by rw [hh.out]; rfl, (Kept.refl _ _).alloc _⟩
      · go_wp2
        go_ret
        exact ⟨by rw [hh.out]; rfl, (Kept.refl _ _).alloc _⟩
    · obtain ⟨k, rfl⟩ : ∃ k, m = k + 1 := ⟨m - 1, by omega⟩
      have e1 : ((k + 1 : Nat) : Int) - 1 = (k : Int) := by omega
      rw [e1]
      clear e1
      have hx := Nat.lt_of_le_of_lt (Nat.div_le_self (low4 N) (65536 ^ k)) (low4_lt N)
      have hn := Lib.hid (low4_next N k (by omega))
      have hn2 := hn.out
      have hy := dig_lt N k
      have cc : (w.alloc (.cells (wide neg N).toArray 83)).cell? ⟨w.heap.size, 1 + k, none⟩ = some (.int .u64 (dig N k : Nat)) := hb0.cell (wideF_get neg (dig N) (by omega))
      generalize low4 N / 65536 ^ (k + 1) = u at *
      generalize dig N k = d at *
      have hu : u < 281474976710656 := by omega
      clear hn2 hx
      go_wp2
      go_round
      case rel => exact ⟨k, by omega, rfl, by rw [hn.out]; simp⟩
      case measure => simp [intOf] <;> omega
set_option maxRecDepth 100000 in
set_option maxHeartbeats 800000 in
theorem held_big5 (neg : Bool) (N : Nat) (g4 : dig N 4 = 0) (gp : 0 < dig N 5) (w : World) :
    Calls Try.prog 42 #[.agg (wide neg N).toArray] w fun e w' => e = .returned (.int .i64 (hold (wval neg N))) ∧ Kept [] w w' := by
  have hb0 := Blk.new w (wide neg N) 83
  have hN := big_of N 5 (by omega) gp
  have c4 : (w.alloc (.cells (wide neg N).toArray 83)).cell? ⟨w.heap.size, 1 + 4, none⟩ = some (.int .u64 0) := by have h := hb0.cell (wideF_get neg (dig N) (show 4 < 9 by omega)); rw [g4] at h; exact h
  have c5 : (w.alloc (.cells (wide neg N).toArray 83)).cell? ⟨w.heap.size, 1 + 5, none⟩ = some (.int .u64 (dig N 5 : Nat)) := hb0.cell (wideF_get neg (dig N) (show 5 < 9 by omega))
  have t5 : (0 : Int) < (dig N 5 : Nat) := by omega
  have hN' := Lib.hid hN
  clear hN g4
  go_enter Try.func42, Try.ntmps42
  go_wp2
  go_loop [3, 5] (fun u i => ∃ m : Nat, m ≤ 4 ∧ i = .int .i64 ((m : Int) - 1) ∧ u = .int .u64 ((low4 N / 65536 ^ m : Nat) : Int)) (fun _ i => (intOf i + 1).toNat)
  case atStart => exact ⟨4, by omega, rfl, by rw [Nat.div_eq_of_lt (low4_lt N)]; rfl⟩
  case round =>
    obtain ⟨m, hm, rfl, rfl⟩ := hrel
    clear c4 c5 t5 gp
    by_cases hm0 : m = 0
    · subst hm0
      rw [Nat.pow_zero, Nat.div_one]
      have hl := low4_lt N
      have c0 := hb0.cell (wideF_0 neg (dig N))
      have hNN := hN'.out
      have hh := Lib.hid (show hold (wval neg N) = if neg then -9223372036854775808 else 9223372036854775807 by unfold hold wval; cases neg <;> simp <;> omega)
      clear hNN
      cases neg
      · go_wp2
        go_ret
        exact ⟨by rw [hh.out]; rfl, (Kept.refl _ _).alloc _⟩
      · go_wp2
        go_ret
        exact ⟨by rw [hh.out]; rfl, (Kept.refl _ _).alloc _⟩
    · obtain ⟨k, rfl⟩ : ∃ k, m = k + 1 := ⟨m - 1, by omega⟩
      have e1 : ((k + 1 : Nat) : Int) - 1 = (k : Int) := by omega
      rw [e1]
      clear e1
      have hx := Nat.lt_of_le_of_lt (Nat.div_le_self (low4 N) (65536 ^ k)) (low4_lt N)
      have hn := Lib.hid (low4_next N k (by omega))
      have hn2 := hn.out
      have hy := dig_lt N k
      have cc : (w.alloc (.cells (wide neg N).toArray 83)).cell? ⟨w.heap.size, 1 + k, none⟩ = some (.int .u64 (dig N k : Nat)) := hb0.cell (wideF_get neg (dig N) (by omega))
      generalize low4 N / 65536 ^ (k + 1) = u at *
      generalize dig N k = d at *
      have hu : u < 281474976710656 := by omega
      clear hn2 hx
      go_wp2
      go_round
      case rel => exact ⟨k, by omega, rfl, by rw [hn.out]; simp⟩
      case measure => simp [intOf] <;> omega
set_option maxRecDepth 100000 in
set_option maxHeartbeats 800000 in
theorem held_big6 (neg : Bool) (N : Nat) (g4 : dig N 4 = 0) (g5 : dig N 5 = 0) (gp : 0 < dig N 6) (w : World) :
    Calls Try.prog 42 #[.agg (wide neg N).toArray] w fun e w' => e = .returned (.int .i64 (hold (wval neg N))) ∧ Kept [] w w' := by
  have hb0 := Blk.new w (wide neg N) 83
  have hN := big_of N 6 (by omega) gp
  have c4 : (w.alloc (.cells (wide neg N).toArray 83)).cell? ⟨w.heap.size, 1 + 4, none⟩ = some (.int .u64 0) := by have h := hb0.cell (wideF_get neg (dig N) (show 4 < 9 by omega)); rw [g4] at h; exact h
  have c5 : (w.alloc (.cells (wide neg N).toArray 83)).cell? ⟨w.heap.size, 1 + 5, none⟩ = some (.int .u64 0) := by have h := hb0.cell (wideF_get neg (dig N) (show 5 < 9 by omega)); rw [g5] at h; exact h
  have c6 : (w.alloc (.cells (wide neg N).toArray 83)).cell? ⟨w.heap.size, 1 + 6, none⟩ = some (.int .u64 (dig N 6 : Nat)) := hb0.cell (wideF_get neg (dig N) (show 6 < 9 by omega))
  have t6 : (0 : Int) < (dig N 6 : Nat) := by omega
  have hN' := Lib.hid hN
  clear hN g4 g5
  go_enter Try.func42, Try.ntmps42
  go_wp2
  go_loop [3, 5] (fun u i => ∃ m : Nat, m ≤ 4 ∧ i = .int .i64 ((m : Int) - 1) ∧ u = .int .u64 ((low4 N / 65536 ^ m : Nat) : Int)) (fun _ i => (intOf i + 1).toNat)
  case atStart => exact ⟨4, by omega, rfl, by rw [Nat.div_eq_of_lt (low4_lt N)]; rfl⟩
  case round =>
    obtain ⟨m, hm, rfl, rfl⟩ := hrel
    clear c4 c5 c6 t6 gp
    by_cases hm0 : m = 0
    · subst hm0
      rw [Nat.pow_zero, Nat.div_one]
      have hl := low4_lt N
      have c0 := hb0.cell (wideF_0 neg (dig N))
      have hNN := hN'.out
      have hh := Lib.hid (show hold (wval neg N) = if neg then -9223372036854775808 else 9223372036854775807 by unfold hold wval; cases neg <;> simp <;> omega)
      clear hNN
      cases neg
      · go_wp2
        go_ret
        exact ⟨by rw [hh.out]; rfl, (Kept.refl _ _).alloc _⟩
      · go_wp2
        go_ret
        exact ⟨by rw [hh.out]; rfl, (Kept.refl _ _).alloc _⟩
    · obtain ⟨k, rfl⟩ : ∃ k, m = k + 1 := ⟨m - 1, by omega⟩
      have e1 : ((k + 1 : Nat) : Int) - 1 = (k : Int) := by omega
      rw [e1]
      clear e1
      have hx := Nat.lt_of_le_of_lt (Nat.div_le_self (low4 N) (65536 ^ k)) (low4_lt N)
      have hn := Lib.hid (low4_next N k (by omega))
      have hn2 := hn.out
      have hy := dig_lt N k
      have cc : (w.alloc (.cells (wide neg N).toArray 83)).cell? ⟨w.heap.size, 1 + k, none⟩ = some (.int .u64 (dig N k : Nat)) := hb0.cell (wideF_get neg (dig N) (by omega))
      generalize low4 N / 65536 ^ (k + 1) = u at *
      generalize dig N k = d at *
      have hu : u < 281474976710656 := by omega
      clear hn2 hx
      go_wp2
      go_round
      case rel => exact ⟨k, by omega, rfl, by rw [hn.out]; simp⟩
      case measure => simp [intOf] <;> omega
set_option maxRecDepth 100000 in
set_option maxHeartbeats 800000 in
theorem held_big7 (neg : Bool) (N : Nat) (g4 : dig N 4 = 0) (g5 : dig N 5 = 0) (g6 : dig N 6 = 0) (gp : 0 < dig N 7) (w : World) :
    Calls Try.prog 42 #[.agg (wide neg N).toArray] w fun e w' => e = .returned (.int .i64 (hold (wval neg N))) ∧ Kept [] w w' := by
  have hb0 := Blk.new w (wide neg N) 83
  have hN := big_of N 7 (by omega) gp
  have c4 : (w.alloc (.cells (wide neg N).toArray 83)).cell? ⟨w.heap.size, 1 + 4, none⟩ = some (.int .u64 0) := by have h := hb0.cell (wideF_get neg (dig N) (show 4 < 9 by omega)); rw [g4] at h; exact h
  have c5 : (w.alloc (.cells (wide neg N).toArray 83)).cell? ⟨w.heap.size, 1 + 5, none⟩ = some (.int .u64 0) := by have h := hb0.cell (wideF_get neg (dig N) (show 5 < 9 by omega)); rw [g5] at h; exact h
  have c6 : (w.alloc (.cells (wide neg N).toArray 83)).cell? ⟨w.heap.size, 1 + 6, none⟩ = some (.int .u64 0) := by have h := hb0.cell (wideF_get neg (dig N) (show 6 < 9 by omega)); rw [g6] at h; exact h
  have c7 : (w.alloc (.cells (wide neg N).toArray 83)).cell? ⟨w.heap.size, 1 + 7, none⟩ = some (.int .u64 (dig N 7 : Nat)) := hb0.cell (wideF_get neg (dig N) (show 7 < 9 by omega))
  have t7 : (0 : Int) < (dig N 7 : Nat) := by omega
  have hN' := Lib.hid hN
  clear hN g4 g5 g6
  go_enter Try.func42, Try.ntmps42
  go_wp2
  go_loop [3, 5] (fun u i => ∃ m : Nat, m ≤ 4 ∧ i = .int .i64 ((m : Int) - 1) ∧ u = .int .u64 ((low4 N / 65536 ^ m : Nat) : Int)) (fun _ i => (intOf i + 1).toNat)
  case atStart => exact ⟨4, by omega, rfl, by rw [Nat.div_eq_of_lt (low4_lt N)]; rfl⟩
  case round =>
    obtain ⟨m, hm, rfl, rfl⟩ := hrel
    clear c4 c5 c6 c7 t7 gp
    by_cases hm0 : m = 0
    · subst hm0
      rw [Nat.pow_zero, Nat.div_one]
      have hl := low4_lt N
      have c0 := hb0.cell (wideF_0 neg (dig N))
      have hNN := hN'.out
      have hh := Lib.hid (show hold (wval neg N) = if neg then -9223372036854775808 else 9223372036854775807 by unfold hold wval; cases neg <;> simp <;> omega)
      clear hNN
      cases neg
      · go_wp2
        go_ret
        exact ⟨by rw [hh.out]; rfl, (Kept.refl _ _).alloc _⟩
      · go_wp2
        go_ret
        exact ⟨by rw [hh.out]; rfl, (Kept.refl _ _).alloc _⟩
    · obtain ⟨k, rfl⟩ : ∃ k, m = k + 1 := ⟨m - 1, by omega⟩
      have e1 : ((k + 1 : Nat) : Int) - 1 = (k : Int) := by omega
      rw [e1]
      clear e1
      have hx := Nat.lt_of_le_of_lt (Nat.div_le_self (low4 N) (65536 ^ k)) (low4_lt N)
      have hn := Lib.hid (low4_next N k (by omega))
      have hn2 := hn.out
      have hy := dig_lt N k
      have cc : (w.alloc (.cells (wide neg N).toArray 83)).cell? ⟨w.heap.size, 1 + k, none⟩ = some (.int .u64 (dig N k : Nat)) := hb0.cell (wideF_get neg (dig N) (by omega))
      generalize low4 N / 65536 ^ (k + 1) = u at *
      generalize dig N k = d at *
      have hu : u < 281474976710656 := by omega
      clear hn2 hx
      go_wp2
      go_round
      case rel => exact ⟨k, by omega, rfl, by rw [hn.out]; simp⟩
      case measure => simp [intOf] <;> omega
set_option maxRecDepth 100000 in
set_option maxHeartbeats 800000 in
theorem held_big8 (neg : Bool) (N : Nat) (g4 : dig N 4 = 0) (g5 : dig N 5 = 0) (g6 : dig N 6 = 0) (g7 : dig N 7 = 0) (gp : 0 < dig N 8) (w : World) :
    Calls Try.prog 42 #[.agg (wide neg N).toArray] w fun e w' => e = .returned (.int .i64 (hold (wval neg N))) ∧ Kept [] w w' := by
  have hb0 := Blk.new w (wide neg N) 83
  have hN := big_of N 8 (by omega) gp
  have c4 : (w.alloc (.cells (wide neg N).toArray 83)).cell? ⟨w.heap.size, 1 + 4, none⟩ = some (.int .u64 0) := by have h := hb0.cell (wideF_get neg (dig N) (show 4 < 9 by omega)); rw [g4] at h; exact h
  have c5 : (w.alloc (.cells (wide neg N).toArray 83)).cell? ⟨w.heap.size, 1 + 5, none⟩ = some (.int .u64 0) := by have h := hb0.cell (wideF_get neg (dig N) (show 5 < 9 by omega)); rw [g5] at h; exact h
  have c6 : (w.alloc (.cells (wide neg N).toArray 83)).cell? ⟨w.heap.size, 1 + 6, none⟩ = some (.int .u64 0) := by have h := hb0.cell (wideF_get neg (dig N) (show 6 < 9 by omega)); rw [g6] at h; exact h
  have c7 : (w.alloc (.cells (wide neg N).toArray 83)).cell? ⟨w.heap.size, 1 + 7, none⟩ = some (.int .u64 0) := by have h := hb0.cell (wideF_get neg (dig N) (show 7 < 9 by omega)); rw [g7] at h; exact h
  have c8 : (w.alloc (.cells (wide neg N).toArray 83)).cell? ⟨w.heap.size, 1 + 8, none⟩ = some (.int .u64 (dig N 8 : Nat)) := hb0.cell (wideF_get neg (dig N) (show 8 < 9 by omega))
  have t8 : (0 : Int) < (dig N 8 : Nat) := by omega
  have hN' := Lib.hid hN
  clear hN g4 g5 g6 g7
  go_enter Try.func42, Try.ntmps42
  go_wp2
  go_loop [3, 5] (fun u i => ∃ m : Nat, m ≤ 4 ∧ i = .int .i64 ((m : Int) - 1) ∧ u = .int .u64 ((low4 N / 65536 ^ m : Nat) : Int)) (fun _ i => (intOf i + 1).toNat)
  case atStart => exact ⟨4, by omega, rfl, by rw [Nat.div_eq_of_lt (low4_lt N)]; rfl⟩
  case round =>
    obtain ⟨m, hm, rfl, rfl⟩ := hrel
    clear c4 c5 c6 c7 c8 t8 gp
    by_cases hm0 : m = 0
    · subst hm0
      rw [Nat.pow_zero, Nat.div_one]
      have hl := low4_lt N
      have c0 := hb0.cell (wideF_0 neg (dig N))
      have hNN := hN'.out
      have hh := Lib.hid (show hold (wval neg N) = if neg then -9223372036854775808 else 9223372036854775807 by unfold hold wval; cases neg <;> simp <;> omega)
      clear hNN
      cases neg
      · go_wp2
        go_ret
        exact ⟨by rw [hh.out]; rfl, (Kept.refl _ _).alloc _⟩
      · go_wp2
        go_ret
        exact ⟨by rw [hh.out]; rfl, (Kept.refl _ _).alloc _⟩
    · obtain ⟨k, rfl⟩ : ∃ k, m = k + 1 := ⟨m - 1, by omega⟩
      have e1 : ((k + 1 : Nat) : Int) - 1 = (k : Int) := by omega
      rw [e1]
      clear e1
      have hx := Nat.lt_of_le_of_lt (Nat.div_le_self (low4 N) (65536 ^ k)) (low4_lt N)
      have hn := Lib.hid (low4_next N k (by omega))
      have hn2 := hn.out
      have hy := dig_lt N k
      have cc : (w.alloc (.cells (wide neg N).toArray 83)).cell? ⟨w.heap.size, 1 + k, none⟩ = some (.int .u64 (dig N k : Nat)) := hb0.cell (wideF_get neg (dig N) (by omega))
      generalize low4 N / 65536 ^ (k + 1) = u at *
      generalize dig N k = d at *
      have hu : u < 281474976710656 := by omega
      clear hn2 hx
      go_wp2
      go_round
      case rel => exact ⟨k, by omega, rfl, by rw [hn.out]; simp⟩
      case measure => simp [intOf] <;> omega
theorem Held_any (neg : Bool) (N : Nat) (h9 : N < 65536 ^ 9) (w : World) :
    Calls Try.prog 42 #[.agg (wide neg N).toArray] w fun e w' => e = .returned (.int .i64 (hold (wval neg N))) ∧ Kept [] w w' := by
  rcases Nat.eq_zero_or_pos (dig N 4) with g4 | g4
  · rcases Nat.eq_zero_or_pos (dig N 5) with g5 | g5
    · rcases Nat.eq_zero_or_pos (dig N 6) with g6 | g6
      · rcases Nat.eq_zero_or_pos (dig N 7) with g7 | g7
        · rcases Nat.eq_zero_or_pos (dig N 8) with g8 | g8
          · exact held_small neg N (small_of N h9 g4 g5 g6 g7 g8) w
          · exact held_big8 neg N g4 g5 g6 g7 g8 w
        · exact held_big7 neg N g4 g5 g6 g7 w
      · exact held_big6 neg N g4 g5 g6 w
    · exact held_big5 neg N g4 g5 w
  · exact held_big4 neg N g4 w
end Go.Proofs.Ytimplkdmhndalaa
