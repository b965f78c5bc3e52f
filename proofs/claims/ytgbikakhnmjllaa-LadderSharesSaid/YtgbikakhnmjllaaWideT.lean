/- The product of two of the references' wide numbers. -/
import Derived.Test.YtgbikakhnmjllaaWideP
namespace Go.Proofs.Ytgbikakhnmjllaa
open Go Go.RowKit
structure Hx (p : Prop) : Prop where
  out : p
theorem hx {p : Prop} (h : p) : Hx p := ⟨h⟩
def carT (c B k : Nat) : Nat := c * (B % 65536 ^ k) / 65536 ^ k
theorem carT_0 (c B : Nat) : carT c B 0 = 0 := by simp [carT, Nat.mod_one]
theorem carT_lt (c B k : Nat) (hc : c < 65536) : carT c B k < 65536 := by
  unfold carT
  have hp := pw_pos k
  rw [Nat.div_lt_iff_lt_mul hp]
  have h1 : B % 65536 ^ k < 65536 ^ k := Nat.mod_lt _ hp
  calc c * (B % 65536 ^ k) ≤ 65535 * 65536 ^ k := Nat.mul_le_mul (by omega) (by omega)
    _ < 65536 * 65536 ^ k := Nat.mul_lt_mul_of_pos_right (by omega) hp
theorem carT_step (c B k : Nat) : c * (B % 65536 ^ (k + 1)) / 65536 ^ k = c * dig B k + carT c B k := by
  unfold carT
  rw [mod_next, Nat.mul_add, Nat.mul_left_comm, Nat.add_mul_div_left _ _ (pw_pos k), Nat.add_comm]
theorem carT_next (c B k : Nat) : carT c B (k + 1) = (c * dig B k + carT c B k) / 65536 := by
  rw [← carT_step]
  unfold carT
  rw [Nat.div_div_eq_div_mul, ← Nat.pow_succ]
theorem dig_mul (c B k : Nat) : dig (c * B) k = (c * dig B k + carT c B k) % 65536 := by
  rw [← carT_step]
  unfold dig
  have h : c * B = c * (B % 65536 ^ (k + 1)) + 65536 ^ k * (65536 * (c * (B / 65536 ^ (k + 1)))) := by
    have e := Nat.mod_add_div B (65536 ^ (k + 1))
    have e2 : 65536 ^ k * (65536 * (c * (B / 65536 ^ (k + 1)))) = c * (65536 ^ (k + 1) * (B / 65536 ^ (k + 1))) := by
      rw [Nat.pow_succ]
      simp only [Nat.mul_assoc, Nat.mul_left_comm, Nat.mul_comm]
    rw [e2, ← Nat.mul_add, e]
  rw [h, Nat.add_mul_div_left _ _ (pw_pos k), Nat.add_mul_mod_self_left]
theorem dig_last (c B : Nat) (hc : c < 65536) (hB : B < 65536 ^ 4) : carT c B 4 = dig (c * B) 4 := by
  have h := carT_lt c B 4 hc
  unfold carT dig at *
  rw [Nat.mod_eq_of_lt hB] at *
  rw [Nat.mod_eq_of_lt h]
theorem dig_high (c B j : Nat) (hc : c < 65536) (hB : B < 65536 ^ 4) (hj : 5 ≤ j) : dig (c * B) j = 0 := by
  refine dig_zero (Nat.lt_of_lt_of_le ?_ (Nat.pow_le_pow_right (by omega) hj))
  rw [Nat.pow_succ, Nat.mul_comm (65536 ^ 4)]
  calc c * B ≤ c * 65536 ^ 4 := Nat.mul_le_mul_left _ (by omega)
    _ < 65536 * 65536 ^ 4 := Nat.mul_lt_mul_of_pos_right hc (pw_pos 4)
theorem dig_shift (n i j : Nat) : dig (n * 65536 ^ i) j = if j < i then 0 else dig n (j - i) := by
  unfold dig
  split
  · rename_i h
    obtain ⟨d, rfl⟩ : ∃ d, i = j + (d + 1) := ⟨i - j - 1, by omega⟩
    rw [Nat.pow_add, Nat.mul_left_comm, Nat.mul_div_cancel_left _ (pw_pos j), Nat.pow_succ, ← Nat.mul_assoc, Nat.mul_mod_left]
  · obtain ⟨d, rfl⟩ : ∃ d, j = i + d := ⟨j - i, by omega⟩
    rw [Nat.pow_add, ← Nat.div_div_eq_div_mul, Nat.mul_div_cancel _ (pw_pos i), show i + d - i = d by omega]
theorem out_next (A B i : Nat) : A % 65536 ^ i * B + dig A i * B * 65536 ^ i = A % 65536 ^ (i + 1) * B := by
  rw [mod_next, Nat.add_mul]
  congr 1
  simp only [Nat.mul_comm, Nat.mul_left_comm]
/-- The row of one digit, so far. -/
def rowF (c B i k : Nat) : Nat → Nat := fun j => if j < i then 0 else if j < i + k then dig (c * B) (j - i) else 0
theorem rowF_0 (c B i : Nat) : wideF false (rowF c B i 0) = wideF false fun _ => 0 := wideF_ext _ fun j _ => by unfold rowF; split; rfl; rw [if_neg (by omega)]
theorem rowF_set (c B i k x : Nat) (hik : i + k < 9) (hx : x = dig (c * B) k) : (wideF false (rowF c B i k)).set (1 + (i + k)) (.int .u64 (x : Nat)) = wideF false (rowF c B i (k + 1)) :=
  wideF_set _ _ _ hik (by unfold rowF; rw [if_neg (by omega), if_pos (by omega), hx, show i + k - i = k by omega]) fun j hj hne => by
    unfold rowF
    by_cases h1 : j < i
    · rw [if_pos h1, if_pos h1]
    · rw [if_neg h1, if_neg h1]
      by_cases h2 : j < i + k
      · rw [if_pos h2, if_pos (by omega)]
      · rw [if_neg h2, if_neg (by omega)]
theorem rowF_5 (c B i : Nat) (hc : c < 65536) (hB : B < 65536 ^ 4) : wideF false (rowF c B i 5) = wide false (c * B * 65536 ^ i) :=
  wideF_ext _ fun j hj => by
    unfold rowF
    rw [dig_shift]
    by_cases h1 : j < i
    · rw [if_pos h1, if_pos h1]
    · rw [if_neg h1, if_neg h1]
      by_cases h2 : j < i + 5
      · rw [if_pos h2]
      · rw [if_neg h2, dig_high c B _ hc hB (by omega)]
structure TmW (w wr : World) (na nb : Bool) (A B X : Nat) : Prop where
  a : Blk wr w.heap.size (wide na A) 70
  b : Blk wr (w.heap.size + 1) (wide nb B) 70
  r : Blk wr (w.heap.size + 1 + 1) (wideF false fun _ => 0) 70
  o : Blk wr (w.heap.size + 1 + 1 + 1) (wide false X) 70
  k : Kept [] w wr
theorem wide_0 : wide false 0 = wideF false fun _ => 0 := wideF_ext _ fun j _ => by simp [dig]
theorem TmW.start (w : World) (na nb : Bool) (A B : Nat) : TmW w ((((w.alloc (.cells (wide na A).toArray 70)).alloc (.cells (wide nb B).toArray 70)).alloc (.cells (wideF false fun _ => 0).toArray 70)).alloc (.cells (wideF false fun _ => 0).toArray 70)) na nb A B 0 := by
  have h0 := Blk.new w (wide na A) 70
  have h1 := Blk.new (w.alloc (.cells (wide na A).toArray 70)) (wide nb B) 70
  have h2 := Blk.new ((w.alloc (.cells (wide na A).toArray 70)).alloc (.cells (wide nb B).toArray 70)) (wideF false fun _ => 0) 70
  have h3 := Blk.new (((w.alloc (.cells (wide na A).toArray 70)).alloc (.cells (wide nb B).toArray 70)).alloc (.cells (wideF false fun _ => 0).toArray 70)) (wideF false fun _ => 0) 70
  rw [World.size_alloc] at h1
  rw [World.size_alloc, World.size_alloc] at h2
  rw [World.size_alloc, World.size_alloc, World.size_alloc] at h3
  exact ⟨((h0.alloc _).alloc _).alloc _, (h1.alloc _).alloc _, h2.alloc _, by rw [wide_0]; exact h3, ((((Kept.refl _ _).alloc _).alloc _).alloc _).alloc _⟩
theorem TmW.kept {w wr w2 : World} {na nb : Bool} {A B X : Nat} (h : TmW w wr na nb A B X) (hk : Kept [] wr w2) : TmW w w2 na nb A B X :=
  ⟨hk.blk h.a (by simp), hk.blk h.b (by simp), hk.blk h.r (by simp), hk.blk h.o (by simp), h.k.trans0 hk⟩
theorem TmW.new {w wr w2 : World} {na nb : Bool} {A B X g : Nat} (h : TmW w wr na nb A B X) (hk : Kept [g] wr w2) (hg : w.heap.size + 1 + 1 + 1 < g) : TmW w w2 na nb A B X :=
  ⟨hk.blk h.a (by simp; omega), hk.blk h.b (by simp; omega), hk.blk h.r (by simp; omega), hk.blk h.o (by simp; omega), h.k.trans hk (fun _ h => h) (fun x h => by simp at h; right; omega)⟩
theorem TmW.seto {w wr w2 : World} {na nb : Bool} {A B X Y : Nat} (h : TmW w wr na nb A B X) (hb : Blk w2 (w.heap.size + 1 + 1 + 1) (wide false Y) 70) (hk : Kept [w.heap.size + 1 + 1 + 1] wr w2) : TmW w w2 na nb A B Y :=
  ⟨hk.blk h.a (by simp <;> omega), hk.blk h.b (by simp <;> omega), hk.blk h.r (by simp <;> omega), hb, h.k.trans hk (fun _ h => h) (fun x h => by simp at h; right; omega)⟩
end Go.Proofs.Ytgbikakhnmjllaa
