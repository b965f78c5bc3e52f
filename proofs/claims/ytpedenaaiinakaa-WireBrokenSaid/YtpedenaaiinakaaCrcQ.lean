import Derived.Test.YtpedenaaiinakaaCrcP2
import Derived.Test.YtpedenaaiinakaaMem
namespace Go.Proofs.Ytpedenaaiinakaa
open Go
/-! The remainder is linear; bytes as one number; bursts; joins. -/
theorem one_lin (a b : Nat) : one (a ^^^ b) = one a ^^^ one b := by
  have h1 : (a ^^^ b) % 2 = (a % 2) ^^^ (b % 2) := by
    have h := Nat.xor_mod_two_pow (a := a) (b := b) (n := 1)
    rw [Nat.pow_one] at h; exact h
  have h2 : (a ^^^ b) / 2 = (a / 2) ^^^ (b / 2) := Nat.xor_div_two
  unfold one
  rw [h1, h2]
  rcases Nat.mod_two_eq_zero_or_one a with ha | ha <;> rcases Nat.mod_two_eq_zero_or_one b with hb | hb <;> rw [ha, hb] <;> simp
  · rw [Nat.xor_assoc]
  · rw [Nat.xor_assoc, Nat.xor_assoc, Nat.xor_comm (b / 2)]
  · rw [Nat.xor_assoc, Nat.xor_comm 3988292384 (b / 2 ^^^ 3988292384), Nat.xor_assoc, Nat.xor_self, Nat.xor_zero]
theorem ones_lin (k a b : Nat) : ones k (a ^^^ b) = ones k a ^^^ ones k b := by
  induction k with
  | zero => rfl
  | succ k ih => show one (ones k (a ^^^ b)) = _; rw [ih, one_lin]; rfl
theorem ones_add (i j r : Nat) : ones (i + j) r = ones i (ones j r) := by
  induction i with
  | zero => simp [ones]
  | succ i ih => rw [show i + 1 + j = (i + j) + 1 by omega]; show one _ = one _; rw [ih]
theorem ones_zero (k : Nat) : ones k 0 = 0 := by
  induction k with
  | zero => rfl
  | succ k ih => show one (ones k 0) = 0; rw [ih]; rfl
theorem one_ne {r : Nat} (h : r < 4294967296) (h0 : r ≠ 0) : one r ≠ 0 := by
  unfold one
  split
  · intro e
    have e2 : r / 2 = 3988292384 := by
      have h3 : (r / 2 ^^^ 3988292384) ^^^ 3988292384 = 3988292384 := by rw [e, Nat.zero_xor]
      rwa [Nat.xor_assoc, Nat.xor_self, Nat.xor_zero] at h3
    omega
  · omega
theorem ones_ne {r : Nat} (h : r < 4294967296) (h0 : r ≠ 0) (k : Nat) : ones k r ≠ 0 := by
  induction k with
  | zero => exact h0
  | succ k ih => exact one_ne (ones_lt h k) ih
theorem ones_shift (k w : Nat) : ones k (w * 2 ^ k) = w := by
  have h := ones_xor k 0 (w * 2 ^ k) (Nat.mul_mod_left _ _)
  rw [Nat.zero_xor, ones_zero, Nat.zero_xor, Nat.mul_div_cancel _ (Nat.two_pow_pos k)] at h
  exact h

/-- Bytes as a number, the lowest first. -/
def num : List UInt8 → Nat
  | [] => 0
  | b :: l => b.toNat + 256 * num l
theorem num_lt (l : List UInt8) : num l < 256 ^ l.length := by
  induction l with
  | nil => simp [num]
  | cons b l ih =>
    have := b.toNat_lt
    simp only [num, List.length_cons, Nat.pow_succ]
    omega
theorem byte_join (b n : Nat) (hb : b < 256) : b + 256 * n = b ^^^ (n * 256) := by
  apply Nat.eq_of_testBit_eq
  intro i
  rw [Nat.testBit_xor, show b + 256 * n = 2 ^ 8 * n + b by omega, Nat.testBit_two_pow_mul_add _ (by omega : b < 2 ^ 8), show n * 256 = n <<< 8 by rw [Nat.shiftLeft_eq], Nat.testBit_shiftLeft]
  by_cases hi : i < 8
  · simp [hi, show ¬ 8 ≤ i by omega]
  · simp [hi, show 8 ≤ i by omega]
    have : b.testBit i = false := Nat.testBit_lt_two_pow (Nat.lt_of_lt_of_le (by omega : b < 2 ^ 8) (Nat.pow_le_pow_right (by omega) (by omega)))
    rw [this]; simp
theorem rst_num (r : Nat) (l : List UInt8) : rst r l = ones (8 * l.length) (r ^^^ num l) := by
  induction l generalizing r with
  | nil => simp [rst, num, ones]
  | cons b l ih =>
    have h1 : rst r (b :: l) = rst (stp r b.toNat) l := rfl
    rw [h1, ih, List.length_cons, Nat.mul_add, Nat.mul_one, ones_add]
    congr 1
    show ones 8 (r ^^^ b.toNat) ^^^ num l = ones 8 (r ^^^ num (b :: l))
    rw [num, byte_join _ _ b.toNat_lt, ← Nat.xor_assoc, ones_xor 8 (r ^^^ b.toNat) (num l * 256) (by rw [show (2:Nat) ^ 8 = 256 from rfl]; exact Nat.mul_mod_left _ _)]
    rw [show (2:Nat) ^ 8 = 256 from rfl, Nat.mul_div_cancel _ (by omega)]
theorem num_inj {l k : List UInt8} (h : l.length = k.length) (hn : num l = num k) : l = k := by
  induction l generalizing k with
  | nil => exact (List.eq_nil_of_length_eq_zero (by simpa using h.symm)).symm
  | cons b l ih =>
    match k, h with
    | c :: k, h =>
      have h1 := b.toNat_lt
      have h2 := c.toNat_lt
      simp only [num] at hn
      have e1 : b.toNat = c.toNat := by omega
      have e2 : num l = num k := by omega
      rw [UInt8.toNat_inj.1 e1, ih (by simpa using h) e2]
/-- One bit of one byte is turned. -/
def flip (l : List UInt8) (k : Nat) : List UInt8 := l.set (k / 8) (UInt8.ofNat ((l[k / 8]?.getD 0).toNat ^^^ 2 ^ (k % 8)))
theorem flip_len (l : List UInt8) (k : Nat) : (flip l k).length = l.length := by simp [flip]
theorem xor_byte {b k : Nat} (hb : b < 256) (hk : k < 8) : b ^^^ 2 ^ k < 256 :=
  Nat.xor_lt_two_pow (n := 8) hb (Nat.pow_lt_pow_right (by omega) hk)
theorem num_flip (l : List UInt8) (k : Nat) (h : k < 8 * l.length) : num (flip l k) = num l ^^^ 2 ^ k := by
  induction l generalizing k with
  | nil => simp at h
  | cons b l ih =>
    by_cases hk : k < 8
    · have h8 : k / 8 = 0 := by omega
      have hm : k % 8 = k := by omega
      have hb := b.toNat_lt
      simp only [flip, h8, hm, List.getElem?_cons_zero, Option.getD_some, List.set_cons_zero, num]
      have hx := xor_byte hb hk
      rw [UInt8.toNat_ofNat_of_lt' hx, byte_join _ _ hx, byte_join _ _ hb, Nat.xor_assoc, Nat.xor_comm (2 ^ k), ← Nat.xor_assoc]
    · obtain ⟨j, rfl⟩ : ∃ j, k = j + 8 := ⟨k - 8, by omega⟩
      have h8 : (j + 8) / 8 = j / 8 + 1 := by omega
      have hm : (j + 8) % 8 = j % 8 := by omega
      have e : flip (b :: l) (j + 8) = b :: flip l j := by
        simp only [flip, h8, hm, List.getElem?_cons_succ, List.set_cons_succ]
      have hb := b.toNat_lt
      rw [e, num, num, ih j (by simp at h; omega), byte_join _ _ hb, byte_join _ _ hb, Nat.xor_assoc]
      congr 1
      rw [show (num l ^^^ 2 ^ j) * 256 = (num l ^^^ 2 ^ j) <<< 8 by rw [Nat.shiftLeft_eq], Nat.shiftLeft_xor_distrib, Nat.shiftLeft_eq, Nat.shiftLeft_eq, Nat.pow_add]
/-- What a burst does to the remainder. -/
theorem burst_ne (r : Nat) (l k : List UInt8) (w f : Nat) (hlen : k.length = l.length) (hk : num k = num l ^^^ (w * 2 ^ f)) (hw : w < 4294967296) (h0 : w ≠ 0) (hf : f ≤ 8 * l.length) : rst r k ≠ rst r l := by
  rw [rst_num, rst_num, hk, ← Nat.xor_assoc, hlen, ones_lin]
  intro e
  have e1 : ones (8 * l.length) (w * 2 ^ f) = 0 := by
    have h2 : (ones (8 * l.length) (r ^^^ num l) ^^^ ones (8 * l.length) (w * 2 ^ f)) ^^^ ones (8 * l.length) (r ^^^ num l) = 0 := by rw [e, Nat.xor_self]
    rw [Nat.xor_comm, ← Nat.xor_assoc, Nat.xor_self, Nat.zero_xor] at h2
    exact h2
  rw [show 8 * l.length = (8 * l.length - f) + f by omega, ones_add, ones_shift] at e1
  exact ones_ne hw h0 _ e1
theorem not_xor {m : Nat} (h : m < 4294967296) : 4294967295 - m = 4294967295 ^^^ m := by
  have e := not_u32 h
  have e2 := u32_xor_nat 4294967295 m (by omega) h
  have e3 : bits .xor .u32 IntKind.u32.max (m : Int) = bits .xor .u32 ((4294967295 : Nat) : Int) (m : Int) := rfl
  rw [e3, e2] at e
  omega
theorem rst_app (r : Nat) (a b : List UInt8) : rst r (a ++ b) = rst (rst r a) b := by unfold rst; rw [List.foldl_append]
/-- Bytes with their own sum behind them leave one and the same remainder. -/
theorem rst_whole (o s : List UInt8) (hs : s.length = 4) (h : num s = mor 0 o) : rst 4294967295 (o ++ s) = ones 32 4294967295 := by
  have hr := rst_lt (show 4294967295 < 4294967296 by omega) o
  rw [rst_app, rst_num _ s, hs, h, mor, Nat.sub_zero, not_xor hr, Nat.xor_comm 4294967295, ← Nat.xor_assoc, Nat.xor_self, Nat.zero_xor]
/-- The sum of two pieces. -/
theorem mor_app (a b : List UInt8) : mor 0 (a ++ b) = mor (mor 0 a) b := by
  have hr := rst_lt (show 4294967295 < 4294967296 by omega) a
  unfold mor
  rw [Nat.sub_zero, rst_app, show 4294967295 - (4294967295 - rst 4294967295 a) = rst 4294967295 a by omega]
theorem mor_join (a b : List UInt8) : mor 0 (a ++ b) = ones (8 * b.length) (mor 0 a) ^^^ mor 0 b := by
  have hr := rst_lt (show 4294967295 < 4294967296 by omega) a
  have hb := rst_lt (show 4294967295 < 4294967296 by omega) b
  have hab := rst_lt (show 4294967295 < 4294967296 by omega) (a ++ b)
  unfold mor
  rw [Nat.sub_zero, not_xor hab, not_xor hr, not_xor hb, rst_app, rst_num _ b, rst_num _ b, ones_lin, ones_lin, ones_lin]
  generalize ones (8 * b.length) 4294967295 = F
  generalize ones (8 * b.length) (rst 4294967295 a) = R
  generalize ones (8 * b.length) (num b) = X
  rw [Nat.xor_comm F R, Nat.xor_assoc R F, ← Nat.xor_assoc F 4294967295, Nat.xor_comm F 4294967295, Nat.xor_assoc 4294967295 F, ← Nat.xor_assoc F F, Nat.xor_self, Nat.zero_xor, ← Nat.xor_assoc, ← Nat.xor_assoc, Nat.xor_comm R]
end Go.Proofs.Ytpedenaaiinakaa
