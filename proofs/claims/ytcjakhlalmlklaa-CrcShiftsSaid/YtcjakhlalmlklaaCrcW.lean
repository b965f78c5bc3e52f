import Derived.Test.YtcjakhlalmlklaaCrcV
namespace Go.Proofs.Ytcjakhlalmlklaa
open Go.RowKit
set_option maxRecDepth 100000 in
set_option maxHeartbeats 1600000 in
theorem shifts_neg (n : Int) (hn : n < 0) (a b : Nat) (w : World) :
    Calls Try.prog 8 #[.int .i64 n, .int .u32 a, .int .u32 b] w fun e w' => e = .returned (.bool true) ∧ Kept [] w w' := by
  have hz := zero32
  have hsh := Lib.hid (fun w => shift_neg n hn w)
  go_enter Try.func8, Try.ntmps8
  go_wp2_with fail
  refine (awake_any _).mono ?_
  rintro e w1 ⟨rfl, hk1⟩
  go_wp2_with fail
  refine (hsh.out _).mono ?_
  rintro e w2 ⟨rfl, hk2⟩
  have hnew := Blk.new w2 (mat fun _ => 0) 42
  go_wp2_with (refine store_mat rfl (.tmp 7) (.tmp 16) rfl w2.heap.size rfl _ _ rfl hnew ?_)
  intro w3 hb3 hk3
  have hk := hk1.trans0 hk2
  have hsz := hk.size
  have hk03 : Kept [] w w3 := (hk.alloc _).trans hk3 (fun _ h => h) (fun x h => by simp at h; right; omega)
  clear hz hnew
  go_wp2
  go_loop [8] (fun v => ∃ j : Nat, j ≤ 32 ∧ v = .int .i64 j) (fun v => 32 - (intOf v).toNat)
  case atStart => exact ⟨0, by omega, rfl⟩
  case round =>
    obtain ⟨j, hj, rfl⟩ := hrel
    by_cases hlt : j < 32
    · have hpw := pow_u32 hlt
      have hpl := pow_lt32 hlt
      have hcell := hb3.cell (mat_get _ hlt)
      have HC := Lib.hid hcell
      clear hcell
      go_wp2
      go_loop [9, 10] (fun v i => ∃ t : Nat, t ≤ 0 ∧ i = .int .i64 t ∧ v = .int .u32 (ones t (2 ^ j) : Nat)) (fun _ i => 0 - (intOf i).toNat)
      case atStart => exact ⟨0, by omega, rfl, rfl⟩
      case round =>
        obtain ⟨t, ht, rfl, rfl⟩ := hrel
        have hlr := ones_lt hpl t
        clear hpw
        by_cases htl : t < 0
        · exact absurd htl (Nat.not_lt_zero _)
        · obtain rfl : t = 0 := by omega
          have hcell := HC.out
          have f0 : decide ((0 : Int) < n) = false := by simp; omega
          go_wp2
          go_round
          case rel => exact ⟨j + 1, by omega, by go_num⟩
          case measure => simp [intOf] <;> omega
    · obtain rfl : j = 32 := by omega
      have f1 : n < 0 := hn
      go_wp2_with fail
      refine (join_nil a b 0 (by omega) _).mono ?_
      rintro e w' ⟨rfl, rfl⟩
      go_wp2_with fail
      refine (join_nil a b (-1) (by omega) _).mono ?_
      rintro e w' ⟨rfl, rfl⟩
      go_wp2
      go_ret
      exact ⟨rfl, hk03⟩
set_option maxRecDepth 100000 in
set_option maxHeartbeats 1600000 in
theorem shifts_big (n : Int) (hn : 64 < n) (h2 : n ≤ 9223372036854775807) (a b : Nat) (w : World) :
    Calls Try.prog 8 #[.int .i64 n, .int .u32 a, .int .u32 b] w fun e w' => e = .returned (.bool true) ∧ Kept [] w w' := by
  have hz := zero32
  have hsh := Lib.hid (fun w => shift_big n hn h2 w)
  go_enter Try.func8, Try.ntmps8
  go_wp2_with fail
  refine (awake_any _).mono ?_
  rintro e w1 ⟨rfl, hk1⟩
  go_wp2_with fail
  refine (hsh.out _).mono ?_
  rintro e w2 ⟨rfl, hk2⟩
  have hnew := Blk.new w2 (mat fun _ => 0) 42
  go_wp2_with (refine store_mat rfl (.tmp 7) (.tmp 16) rfl w2.heap.size rfl _ _ rfl hnew ?_)
  intro w3 hb3 hk3
  have hk := hk1.trans0 hk2
  have hsz := hk.size
  have hk03 : Kept [] w w3 := (hk.alloc _).trans hk3 (fun _ h => h) (fun x h => by simp at h; right; omega)
  clear hz hnew
  go_wp2
  go_loop [8] (fun v => ∃ j : Nat, j ≤ 32 ∧ v = .int .i64 j) (fun v => 32 - (intOf v).toNat)
  case atStart => exact ⟨0, by omega, rfl⟩
  case round =>
    obtain ⟨j, hj, rfl⟩ := hrel
    by_cases hlt : j < 32
    · have hpw := pow_u32 hlt
      have hpl := pow_lt32 hlt
      have hcell := hb3.cell (mat_get _ hlt)
      have HC := Lib.hid hcell
      clear hcell
      go_wp2
      go_loop [9, 10] (fun v i => ∃ t : Nat, t ≤ 64 ∧ i = .int .i64 t ∧ v = .int .u32 (ones t (2 ^ j) : Nat)) (fun _ i => 64 - (intOf i).toNat)
      case atStart => exact ⟨0, by omega, rfl, rfl⟩
      case round =>
        obtain ⟨t, ht, rfl, rfl⟩ := hrel
        have hlr := ones_lt hpl t
        clear hpw
        by_cases htl : t < 64
        · have hc1 : (t : Int) < n := by omega
          have hc2 : (t : Int) < 64 := by omega
          go_wp2_with (go_at_call 23; refine (rone_any _ _ hlr).mono ?_; rintro e w' ⟨rfl, rfl⟩)
          go_round
          case rel => exact ⟨t + 1, by omega, by go_num, rfl⟩
          case measure => simp [intOf] <;> omega
        · obtain rfl : t = 64 := by omega
          have hcell := HC.out
          have f0 : (64 : Int) < n := hn
          go_wp2
          go_round
          case rel => exact ⟨j + 1, by omega, by go_num⟩
          case measure => simp [intOf] <;> omega
    · obtain rfl : j = 32 := by omega
      have f1 : decide (n < 0) = false := by simp; omega
      have f2 : (64 : Int) < n := hn
      go_wp2_with fail
      refine (join_nil a b 0 (by omega) _).mono ?_
      rintro e w' ⟨rfl, rfl⟩
      go_wp2_with fail
      refine (join_nil a b (-1) (by omega) _).mono ?_
      rintro e w' ⟨rfl, rfl⟩
      go_wp2
      go_ret
      exact ⟨rfl, hk03⟩
set_option maxRecDepth 100000 in
set_option maxHeartbeats 1600000 in
theorem shifts_mid (k : Nat) (hn : k ≤ 64) (a b : Nat) (ha : a < 4294967296) (hb : b < 4294967296) (w : World) :
    Calls Try.prog 8 #[.int .i64 k, .int .u32 a, .int .u32 b] w fun e w' => e = .returned (.bool true) ∧ Kept [] w w' := by
  have hz := zero32
  have hsh := Lib.hid (fun w => shift_mid k hn w)
  go_enter Try.func8, Try.ntmps8
  go_wp2_with fail
  refine (awake_any _).mono ?_
  rintro e w1 ⟨rfl, hk1⟩
  go_wp2_with fail
  refine (hsh.out _).mono ?_
  rintro e w2 ⟨rfl, hk2⟩
  have hnew := Blk.new w2 (mat fun _ => 0) 42
  go_wp2_with (refine store_mat rfl (.tmp 7) (.tmp 16) rfl w2.heap.size rfl _ _ rfl hnew ?_)
  intro w3 hb3 hk3
  have hk := hk1.trans0 hk2
  have hsz := hk.size
  have hk03 : Kept [] w w3 := (hk.alloc _).trans hk3 (fun _ h => h) (fun x h => by simp at h; right; omega)
  clear hz hnew
  go_wp2
  go_loop [8] (fun v => ∃ j : Nat, j ≤ 32 ∧ v = .int .i64 j) (fun v => 32 - (intOf v).toNat)
  case atStart => exact ⟨0, by omega, rfl⟩
  case round =>
    obtain ⟨j, hj, rfl⟩ := hrel
    by_cases hlt : j < 32
    · have hpw := pow_u32 hlt
      have hpl := pow_lt32 hlt
      have hcell := hb3.cell (mat_get _ hlt)
      have HC := Lib.hid hcell
      clear hcell
      go_wp2
      go_loop [9, 10] (fun v i => ∃ t : Nat, t ≤ k ∧ i = .int .i64 t ∧ v = .int .u32 (ones t (2 ^ j) : Nat)) (fun _ i => k - (intOf i).toNat)
      case atStart => exact ⟨0, by omega, rfl, rfl⟩
      case round =>
        obtain ⟨t, ht, rfl, rfl⟩ := hrel
        have hlr := ones_lt hpl t
        clear hpw
        by_cases htl : t < k
        · have hc1 : (t : Int) < (k : Int) := by omega
          have hc2 : (t : Int) < 64 := by omega
          go_wp2_with (go_at_call 23; refine (rone_any _ _ hlr).mono ?_; rintro e w' ⟨rfl, rfl⟩)
          go_round
          case rel => exact ⟨t + 1, by omega, by go_num, rfl⟩
          case measure => simp [intOf] <;> omega
        · obtain rfl : k = t := by omega
          have hcell := HC.out
          have f0 : ¬ (k : Int) < (k : Int) := by omega
          go_wp2
          go_round
          case rel => exact ⟨j + 1, by omega, by go_num⟩
          case measure => simp [intOf] <;> omega
    · obtain rfl : j = 32 := by omega
      have f1 : decide ((k : Int) < 0) = false := by simp
      have f2 : ¬ (64 : Int) < (k : Int) := by omega
      go_wp2
      go_loop [11, 12] (fun v i => ∃ t : Nat, t ≤ 8 * k ∧ i = .int .i64 t ∧ v = .int .u32 (ones t a : Nat)) (fun _ i => 8 * k - (intOf i).toNat)
      case atStart => exact ⟨0, by omega, rfl, rfl⟩
      case round =>
        obtain ⟨t, ht, rfl, rfl⟩ := hrel
        have hlr := ones_lt ha t
        by_cases htl : t < 8 * k
        · have hc1 : (t : Int) < 8 * (k : Int) := by omega
          go_wp2_with (go_at_call 23; refine (rone_any _ _ hlr).mono ?_; rintro e w' ⟨rfl, rfl⟩)
          go_round
          case rel => exact ⟨t + 1, by omega, by go_num, rfl⟩
          case measure => simp [intOf] <;> omega
        · obtain rfl : t = 8 * k := by omega
          by_cases hk0 : k = 0
          · subst hk0
            go_wp2
            go_ret
            exact ⟨rfl, hk03⟩
          · have f3 : ((k : Int) == 0) = false := by simp; omega
            have hx := u32_xor_nat _ b hlr hb
            go_wp2_with fail
            refine (join_any a b k ha hb (by omega) (by omega) _).mono ?_
            rintro e w' ⟨rfl, hk9⟩
            go_wp2
            go_ret
            exact ⟨rfl, hk03.trans0 hk9⟩
end Go.Proofs.Ytcjakhlalmlklaa
