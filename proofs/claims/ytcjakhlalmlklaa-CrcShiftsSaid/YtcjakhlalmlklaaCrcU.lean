import Derived.Test.YtcjakhlalmlklaaCrcT
import Derived.Test.YtcjakhlalmlklaaCrcR
namespace Go.Proofs.Ytcjakhlalmlklaa
open Go.RowKit
theorem mapp_ones (p r : Nat) (k : Nat) : mapp (fun i => ones p (2 ^ i)) k r = ones p (r % 2 ^ k) := by
  induction k with
  | zero => rw [Nat.pow_zero, Nat.mod_one, ones_zero]; rfl
  | succ k ih =>
    unfold mapp
    by_cases h : r / 2 ^ k % 2 = 1
    · rw [if_pos h, ih]
      have e := mask_succ r k h 0
      rw [Nat.pow_zero, Nat.mul_one, Nat.mul_one, Nat.zero_add] at e
      rw [e, ones_lin]
    · rw [if_neg h, ih, mask_same r k h]
theorem mapp_ones32 (p r : Nat) (hr : r < 4294967296) : mapp (fun i => ones p (2 ^ i)) 32 r = ones p r := by
  rw [mapp_ones, Nat.mod_eq_of_lt hr]
theorem matv_square (p : Nat) : (matv fun i => mapp (fun i => ones p (2 ^ i)) 32 (ones p (2 ^ i))) = matv fun i => ones (p + p) (2 ^ i) := by
  unfold matv
  congr 1
  refine tab_ext fun i hi => ?_
  dsimp only
  rw [mapp_ones32 _ _ (ones_lt (pow_lt32 hi) p), ones_add]
theorem i64_and1 {x : Nat} (h : x < 9223372036854775808) : bits .and .i64 (x : Int) 1 = ((x % 2 : Nat) : Int) := by
  have h1 : (BitVec.ofInt 64 (x : Int)).toNat = x := by
    rw [BitVec.ofInt_natCast, BitVec.toNat_ofNat]; exact Nat.mod_eq_of_lt (by omega)
  have h2 : (BitVec.ofInt 64 (1 : Int)).toNat = 1 := by decide
  show IntKind.i64.wrap ((BitVec.ofInt 64 (x : Int) &&& BitVec.ofInt 64 (1 : Int)).toNat : Int) = _
  rw [BitVec.toNat_and, h1, h2, nat_mask1, IntKind.wrap_i64]
  omega
theorem join_one (p t n : Nat) (h : n / 2 ^ t % 2 = 1) (a : Nat) (hp : p = 8 * 2 ^ t) : ones p (ones (8 * (n % 2 ^ t)) a) = ones (8 * (n % 2 ^ (t + 1))) a := by
  rw [← ones_add, hp, Nat.pow_succ, Nat.mod_mul, h, Nat.mul_one]
  congr 1
  omega
theorem join_nil (a b : Nat) (n : Int) (hn : n ≤ 0) (w : World) :
    Calls Try.prog 21 #[.int .u32 a, .int .u32 b, .int .i64 n] w fun e w' => e = .returned (.int .u32 a) ∧ w = w' := by
  go_enter Try.func21, Try.ntmps21
  go_wp2
  go_ret
  exact ⟨rfl, rfl⟩
set_option maxRecDepth 100000 in
set_option maxHeartbeats 800000 in
theorem join_any (a b n : Nat) (ha : a < 4294967296) (hb : b < 4294967296) (hn0 : 0 < n) (hn : n < 9223372036854775808) (w : World) :
    Calls Try.prog 21 #[.int .u32 a, .int .u32 b, .int .i64 n] w fun e w' => e = .returned (.int .u32 (ones (8 * n) a ^^^ b : Nat)) ∧ Kept [] w w' := by
  have hz := zero32
  have hfin := Lib.hid (u32_xor_nat (ones (8 * n) a) b (ones_lt ha _) hb)
  go_enter Try.func21, Try.ntmps21
  go_wp2_with fail
  refine (shift_mid 8 (by omega) _).mono ?_
  rintro e w1 ⟨rfl, hk1⟩
  have hnew := Blk.new w1 (mat fun _ => 0) 42
  go_wp2_with (refine store_mat rfl (.tmp 7) (.tmp 11) rfl w1.heap.size rfl _ _ rfl hnew ?_)
  intro w2 hb2 hk2
  have hk02 : Kept [] w w2 := (hk1.alloc _).trans hk2 (fun _ h => h) (fun x h => by simp at h; right; have := hk1.size; omega)
  go_wp2
  go_loopw [0, 2] (fun v i wr => ∃ t : Nat, i = .int .i64 ((n / 2 ^ t : Nat) : Int) ∧ v = .int .u32 ((ones (8 * (n % 2 ^ t)) a : Nat) : Int) ∧ Blk wr w1.heap.size (mat fun i => ones (8 * 2 ^ t) (2 ^ i)) 42 ∧ Kept [] w wr) (fun _ i _ => (intOf i).toNat)
  case atStart => exact ⟨0, by simp, by simp [Nat.mod_one, ones], hb2, hk02⟩
  case round =>
    obtain ⟨t, rfl, rfl, hbr, hkr⟩ := hrel
    clear hz hnew hn0
    have hm : n / 2 ^ t < 9223372036854775808 := Nat.lt_of_le_of_lt (Nat.div_le_self _ _) hn
    have hd := Lib.hid (show n / 2 ^ (t + 1) = n / 2 ^ t / 2 by rw [Nat.pow_succ, Nat.div_div_eq_div_mul])
    have hsq := Lib.hid (matv_square (8 * 2 ^ t))
    have hpp := Lib.hid (show 8 * 2 ^ t + 8 * 2 ^ t = 8 * 2 ^ (t + 1) by rw [Nat.pow_succ]; omega)
    have hal := ones_lt ha (8 * (n % 2 ^ t))
    have hfl : ∀ i, i < 32 → ones (8 * 2 ^ t) (2 ^ i) < 4294967296 := fun i hi => ones_lt (pow_lt32 hi) _
    have hfl' := Lib.hid hfl
    clear hfl
    by_cases h0 : n / 2 ^ t = 0
    · have hlow := Lib.hid (show n % 2 ^ t = n by rw [← Nat.div_add_mod n (2 ^ t), h0, Nat.mul_zero, Nat.zero_add]; simp)
      rw [h0, hlow.out]
      have hf2 := hfin.out
      go_wp2
      go_ret
      exact ⟨rfl, hkr⟩
    · by_cases hbit : n / 2 ^ t % 2 = 1
      · have hx := i64_and1 hm
        rw [hbit] at hx
        have hj := Lib.hid (join_one (8 * 2 ^ t) t n hbit a rfl)
        clear hbit
        generalize n / 2 ^ t = q at *
        have hq : (0 : Int) < (q : Int) := by omega
        go_wp2_with (refine load_mat rfl (.tmp 7) rfl w1.heap.size rfl _ hbr ?_)
        refine (times_any _ _ _ hfl'.out hal).mono ?_
        rintro e w3 ⟨rfl, hk3⟩
        rw [mapp_ones32 _ _ hal, hj.out]
        go_wp2_with (refine load_mat rfl (.tmp 7) rfl w1.heap.size rfl _ (hk3.blk hbr (by simp)) ?_)
        refine (square_any _ _ hfl'.out).mono ?_
        rintro e w4 ⟨rfl, hk4⟩
        rw [hsq.out, hpp.out]
        have hb4 := (hk3.trans0 hk4).blk hbr (by simp)
        go_wp2_with (refine store_mat rfl (.tmp 7) (.tmp 23) rfl w1.heap.size rfl _ _ rfl hb4 ?_)
        intro w5 hb5 hk5
        go_wp2
        go_roundw
        case rel => exact ⟨t + 1, by rw [hd.out]; simp, rfl, hb5, (hkr.trans0 (hk3.trans0 hk4)).trans hk5 (fun _ h => h) (fun x h => by simp at h; right; have := hk1.size; omega)⟩
        case measure => simp [intOf] <;> omega
      · have hx := i64_and1 hm
        rw [show n / 2 ^ t % 2 = 0 by omega] at hx
        have hsame := Lib.hid (mask_same n t hbit)
        clear hbit
        generalize n / 2 ^ t = q at *
        have hq : (0 : Int) < (q : Int) := by omega
        go_wp2_with (refine load_mat rfl (.tmp 7) rfl w1.heap.size rfl _ hbr ?_)
        refine (square_any _ _ hfl'.out).mono ?_
        rintro e w4 ⟨rfl, hk4⟩
        rw [hsq.out, hpp.out]
        have hb4 := (hk4).blk hbr (by simp)
        go_wp2_with (refine store_mat rfl (.tmp 7) (.tmp 23) rfl w1.heap.size rfl _ _ rfl hb4 ?_)
        intro w5 hb5 hk5
        go_wp2
        go_roundw
        case rel => exact ⟨t + 1, by rw [hd.out]; simp, by rw [hsame.out], hb5, (hkr.trans0 (hk4)).trans hk5 (fun _ h => h) (fun x h => by simp at h; right; have := hk1.size; omega)⟩
        case measure => simp [intOf] <;> omega
end Go.Proofs.Ytcjakhlalmlklaa
