/- The document's product of two elements. -/
import Derived.Test.YtjgnngnknhkpmaaGfC
namespace Go.Proofs.Ytjgnngnknhkpmaa
open Go Go.RowKit
theorem i64_xor_nat (a b : Nat) (ha : a < 65536) (hb : b < 65536) : bits .xor .i64 (a : Int) (b : Int) = ((a ^^^ b : Nat) : Int) := by
  have h1 : (BitVec.ofInt 64 (a : Int)).toNat = a := by
    rw [BitVec.ofInt_natCast, BitVec.toNat_ofNat]; exact Nat.mod_eq_of_lt (by omega)
  have h2 : (BitVec.ofInt 64 (b : Int)).toNat = b := by
    rw [BitVec.ofInt_natCast, BitVec.toNat_ofNat]; exact Nat.mod_eq_of_lt (by omega)
  show IntKind.i64.wrap (((BitVec.ofInt 64 (a : Int) ^^^ BitVec.ofInt 64 (b : Int)).toNat : Nat) : Int) = _
  have h3 : a ^^^ b < 65536 := Nat.xor_lt_two_pow (n := 16) ha hb
  rw [BitVec.toNat_xor, h1, h2, IntKind.wrap_i64]
  omega
def mA (a b : Nat) : Nat → Nat
  | 0 => 0
  | i + 1 => if b / 2 ^ i % 2 = 1 then mA a b i ^^^ (a * 2 ^ i) else mA a b i
def mB (n : Nat) : Nat → Nat
  | 0 => n
  | j + 1 => if mB n j / 2 ^ (14 - j) % 2 = 1 then mB n j ^^^ (285 * 2 ^ (6 - j)) else mB n j
def mulR (a b : Nat) : Nat := mB (mA a b 8) 7 % 256
theorem mA_lt (a b : Nat) (ha : a < 256) : ∀ i, i ≤ 8 → mA a b i < 65536
  | 0, _ => by simp [mA]
  | i + 1, hi => by
    have h := mA_lt a b ha i (by omega)
    unfold mA
    split
    · refine Nat.xor_lt_two_pow (n := 16) h ?_
      have h1 : 2 ^ i ≤ 2 ^ 7 := Nat.pow_le_pow_right (by omega) (by omega)
      have h2 := Nat.mul_le_mul (show a ≤ 255 by omega) h1
      omega
    · exact h
theorem mB_lt (n : Nat) (hn : n < 65536) : ∀ j, j ≤ 7 → mB n j < 65536
  | 0, _ => hn
  | j + 1, hj => by
    have h := mB_lt n hn j (by omega)
    unfold mB
    split
    · refine Nat.xor_lt_two_pow (n := 16) h ?_
      have h1 : 2 ^ (6 - j) ≤ 2 ^ 6 := Nat.pow_le_pow_right (by omega) (by omega)
      omega
    · exact h
set_option maxRecDepth 100000 in
set_option maxHeartbeats 8000000 in
theorem refmul_any (a b : Nat) (w : World) (ha : a < 256) (hb : b < 256) :
    Calls Try.prog 25 #[.int .u8 a, .int .u8 b] w fun e w' => e = .returned (.int .u8 (mulR a b : Nat)) ∧ w = w' := by
  go_enter Try.func25, Try.ntmps25
  go_wp2_with fail
  go_loopw [5, 6] (fun nv iv wr => ∃ i : Nat, i ≤ 8 ∧ iv = .int .i64 i ∧ nv = .int .i64 (mA a b i : Nat) ∧ w = wr) (fun _ iv _ => 8 - (intOf iv).toNat)
  case atStart => exact ⟨0, by omega, rfl, rfl, rfl⟩
  case round =>
    obtain ⟨i, hi, rfl, rfl, rfl⟩ := hrel
    by_cases hlt : i < 8
    · have hj : (i : Int) < 8 := by omega
      have hm := mA_lt a b ha i hi
      have hE : mA a b (i + 1) = if b / 2 ^ i % 2 = 1 then mA a b i ^^^ (a * 2 ^ i) else mA a b i := rfl
      have hp7 : 2 ^ i ≤ 2 ^ 7 := Nat.pow_le_pow_right (by omega) (by omega)
      have hap : a * 2 ^ i < 65536 := by have h := Nat.mul_le_mul (show a ≤ 255 by omega) hp7; omega
      obtain ⟨q, hq⟩ : ∃ q, a * 2 ^ i = q := ⟨_, rfl⟩
      have hcast : ((b : Int) / 2 ^ i).tmod 2 = ((b / 2 ^ i % 2 : Nat) : Int) := by
        rw [Int.tmod_eq_emod_of_nonneg (Int.ediv_nonneg (by omega) (by exact_mod_cast Nat.zero_le (2 ^ i)))]
        push_cast
        rfl
      have hac : wrap64 ((a : Int) * 2 ^ i) = (q : Int) := by
        have h1 : (a : Int) * 2 ^ i = (q : Int) := by rw [← hq]; push_cast; rfl
        rw [h1]
        rw [hq] at hap
        unfold wrap64
        omega
      rw [hq] at hap hE
      have hxor := i64_xor_nat (mA a b i) q hm hap
      by_cases ho : b / 2 ^ i % 2 = 1
      · rw [if_pos ho] at hE
        have hob : (((b : Int) / 2 ^ i).tmod 2 == 1) = true := by rw [hcast, ho]; rfl
        have HF := hx (show bits .xor .i64 ((mA a b i : Nat) : Int) (wrap64 ((a : Int) * 2 ^ i)) = ((mA a b (i + 1) : Nat) : Int) by rw [hac, hxor, hE])
        clear hcast hac hxor hE ho hm hp7 hap hq
        go_wp2_with fail
        go_roundw
        case rel => exact ⟨i + 1, by omega, by go_num, by rw [HF.out], trivial⟩
        case measure => simp [intOf] <;> omega
      · rw [if_neg ho] at hE
        have hob : (((b : Int) / 2 ^ i).tmod 2 == 1) = false := by rw [hcast, show b / 2 ^ i % 2 = 0 by omega]; rfl
        have HF := hx hE
        clear hcast hac hxor hE ho hm hp7 hap hq
        go_wp2_with fail
        go_roundw
        case rel => exact ⟨i + 1, by omega, by go_num, by rw [HF.out], trivial⟩
        case measure => simp [intOf] <;> omega
    · obtain rfl : i = 8 := by omega
      have hn := mA_lt a b ha 8 (by omega)
      have HR := hx (show mulR a b = mB (mA a b 8) 7 % 256 from rfl)
      have HB0 := hx (show mB (mA a b 8) 0 = mA a b 8 from rfl)
      generalize mA a b 8 = n at *
      go_wp2_with fail
      go_loopw [5, 7] (fun nv iv wr => ∃ j : Nat, j ≤ 7 ∧ iv = .int .i64 (14 - (j : Int)) ∧ nv = .int .i64 (mB n j : Nat) ∧ w = wr) (fun _ iv _ => (intOf iv).toNat - 7)
      case atStart => exact ⟨0, by omega, by go_num, rfl, rfl⟩
      case round =>
        obtain ⟨j, hi, rfl, rfl, rfl⟩ := hrel
        by_cases hlt : j < 7
        · have hj : (j : Int) < 7 := by omega
          have hm := mB_lt n hn j hi
          have hE : mB n (j + 1) = if mB n j / 2 ^ (14 - j) % 2 = 1 then mB n j ^^^ (285 * 2 ^ (6 - j)) else mB n j := rfl
          have hp6 : 2 ^ (6 - j) ≤ 2 ^ 6 := Nat.pow_le_pow_right (by omega) (by omega)
          have hap : 285 * 2 ^ (6 - j) < 65536 := by omega
          obtain ⟨q, hq⟩ : ∃ q, 285 * 2 ^ (6 - j) = q := ⟨_, rfl⟩
          have hcast : (((mB n j : Nat) : Int) / 2 ^ (14 - j)).tmod 2 = ((mB n j / 2 ^ (14 - j) % 2 : Nat) : Int) := by
            rw [Int.tmod_eq_emod_of_nonneg (Int.ediv_nonneg (by omega) (by exact_mod_cast Nat.zero_le (2 ^ (14 - j))))]
            push_cast
            rfl
          have hac : wrap64 (285 * 2 ^ (14 - j - 8)) = (q : Int) := by
            have h1 : (285 : Int) * 2 ^ (14 - j - 8) = (q : Int) := by rw [← hq, show 14 - j - 8 = 6 - j by omega]; push_cast; rfl
            rw [h1]
            rw [hq] at hap
            unfold wrap64
            omega
          rw [hq] at hap hE
          have hxor := i64_xor_nat (mB n j) q hm hap
          by_cases ho : mB n j / 2 ^ (14 - j) % 2 = 1
          · rw [if_pos ho] at hE
            have hob : ((((mB n j : Nat) : Int) / 2 ^ (14 - j)).tmod 2 == 1) = true := by rw [hcast, ho]; rfl
            have HF := hx (show bits .xor .i64 ((mB n j : Nat) : Int) (wrap64 (285 * 2 ^ (14 - j - 8))) = ((mB n (j + 1) : Nat) : Int) by rw [hac, hxor, hE])
            clear hcast hac hxor hE ho hm hp6 hap hq
            go_wp2_with fail
            go_roundw
            case rel => exact ⟨j + 1, by omega, by go_num, by rw [HF.out], trivial⟩
            case measure => simp [intOf] <;> omega
          · rw [if_neg ho] at hE
            have hob : ((((mB n j : Nat) : Int) / 2 ^ (14 - j)).tmod 2 == 1) = false := by rw [hcast, show mB n j / 2 ^ (14 - j) % 2 = 0 by omega]; rfl
            have HF := hx hE
            clear hcast hac hxor hE ho hm hp6 hap hq
            go_wp2_with fail
            go_roundw
            case rel => exact ⟨j + 1, by omega, by go_num, by rw [HF.out], trivial⟩
            case measure => simp [intOf] <;> omega
        · obtain rfl : j = 7 := by omega
          have hm := mB_lt n hn 7 (by omega)
          have hu : IntKind.u8.wrap ((mB n 7 : Nat) : Int) = ((mulR a b : Nat) : Int) := by rw [IntKind.wrap_u8, HR.out]; omega
          generalize mB n 7 = z at *
          go_wp2_with fail
          go_ret
          exact ⟨rfl, rfl⟩
end Go.Proofs.Ytjgnngnknhkpmaa
