/- The field as a type; sums. -/
import Derived.Test.YtjgnngnknhkpmaaGfR
namespace Go.Proofs.Ytjgnngnknhkpmaa
open Go
structure F where
  v : Nat
  lt : v < 256
theorem F.ext' {a b : F} (h : a.v = b.v) : a = b := by
  obtain ⟨a, _⟩ := a
  obtain ⟨b, _⟩ := b
  obtain rfl : a = b := h
  rfl
def toF (n : Nat) : F := ⟨n % 256, Nat.mod_lt _ (by omega)⟩
theorem toF_v {n : Nat} (h : n < 256) : (toF n).v = n := Nat.mod_eq_of_lt h
theorem toF_of (a : F) : toF a.v = a := F.ext' (toF_v a.lt)
instance : Zero F := ⟨⟨0, by omega⟩⟩
instance : One F := ⟨⟨1, by omega⟩⟩
instance : Add F := ⟨fun a b => ⟨a.v ^^^ b.v, Nat.xor_lt_two_pow (n := 8) a.lt b.lt⟩⟩
instance : Mul F := ⟨fun a b => ⟨gmul a.v b.v, gmul_lt _ _⟩⟩
theorem F.zero_v : (0 : F).v = 0 := rfl
theorem F.one_v : (1 : F).v = 1 := rfl
theorem F.add_v (a b : F) : (a + b).v = a.v ^^^ b.v := rfl
theorem F.mul_v (a b : F) : (a * b).v = gmul a.v b.v := rfl
theorem F.add_comm (a b : F) : a + b = b + a := F.ext' (Nat.xor_comm _ _)
theorem F.add_assoc (a b c : F) : a + b + c = a + (b + c) := F.ext' (Nat.xor_assoc _ _ _)
theorem F.mul_comm (a b : F) : a * b = b * a := F.ext' (gmul_comm _ _)
theorem F.mul_assoc (a b c : F) : a * b * c = a * (b * c) := F.ext' (gmul_assoc _ _ _)
instance : Std.Commutative (α := F) (· + ·) := ⟨F.add_comm⟩
instance : Std.Associative (α := F) (· + ·) := ⟨F.add_assoc⟩
instance : Std.Commutative (α := F) (· * ·) := ⟨F.mul_comm⟩
instance : Std.Associative (α := F) (· * ·) := ⟨F.mul_assoc⟩
theorem F.add_zero (a : F) : a + 0 = a := F.ext' (Nat.xor_zero _)
theorem F.zero_add (a : F) : 0 + a = a := F.ext' (Nat.zero_xor _)
theorem F.add_self (a : F) : a + a = 0 := F.ext' (Nat.xor_self _)
theorem F.mul_zero (a : F) : a * 0 = 0 := F.ext' (gmul_zero a.v)
theorem F.zero_mul (a : F) : 0 * a = 0 := F.ext' (zero_gmul a.v)
theorem F.one_mul (a : F) : 1 * a = a := F.ext' (one_gmul _ a.lt)
theorem F.mul_one (a : F) : a * 1 = a := by rw [F.mul_comm, F.one_mul]
theorem F.mul_add (a b c : F) : a * (b + c) = a * b + a * c := F.ext' (gmul_add _ _ _ a.lt b.lt c.lt)
theorem F.add_mul (a b c : F) : (a + b) * c = a * c + b * c := by rw [F.mul_comm, F.mul_add, F.mul_comm c, F.mul_comm c]
theorem F.v_ne {a : F} (h : a ≠ 0) : a.v ≠ 0 := fun g => h (F.ext' g)
def F.inv (a : F) : F := ⟨ginv a.v, ginv_lt _⟩
theorem F.inv_v (a : F) : a.inv.v = ginv a.v := by simp only [F.inv]
theorem F.mul_inv {a : F} (h : a ≠ 0) : a * a.inv = 1 := F.ext' (by rw [F.mul_v, F.one_v, F.inv_v]; exact gmul_inv a.v (F.v_ne h))
theorem F.cancel {a b c : F} (h : a + b = a + c) : b = c := by
  have h1 : a + (a + b) = a + (a + c) := by rw [h]
  rw [← F.add_assoc, ← F.add_assoc, F.add_self, F.zero_add, F.zero_add] at h1
  exact h1
theorem F.eq_of_add {a b : F} (h : a + b = 0) : a = b := by
  have h1 : a + b = a + a := by rw [h, F.add_self]
  exact (F.cancel h1).symm
theorem F.mul_cancel {a b c : F} (ha : a ≠ 0) (h : a * b = a * c) : b = c := by
  have h1 : a.inv * (a * b) = a.inv * (a * c) := by rw [h]
  rw [← F.mul_assoc, ← F.mul_assoc, F.mul_comm a.inv, F.mul_inv ha, F.one_mul, F.one_mul] at h1
  exact h1
theorem F.mul_ne {a b : F} (ha : a ≠ 0) (hb : b ≠ 0) : a * b ≠ 0 := fun h =>
  hb (F.mul_cancel ha (by rw [h, F.mul_zero]))
theorem F.one_ne : (1 : F) ≠ 0 := fun h => absurd (congrArg F.v h) (by decide)
instance : DecidableEq F := fun a b => if h : a.v = b.v then .isTrue (F.ext' h) else .isFalse fun g => h (by rw [g])
/-- Sums. -/
def sm : Nat → (Nat → F) → F
  | 0, _ => 0
  | n + 1, f => sm n f + f n
theorem sm_congr {n : Nat} {f g : Nat → F} (h : ∀ i, i < n → f i = g i) : sm n f = sm n g := by
  induction n with
  | zero => rfl
  | succ n ih => rw [sm, sm, ih fun i hi => h i (by omega), h n (by omega)]
theorem sm_zero (n : Nat) : (sm n fun _ => 0) = 0 := by
  induction n with
  | zero => rfl
  | succ n ih => rw [sm, ih, F.add_zero]
theorem sm_zero' {n : Nat} {f : Nat → F} (h : ∀ i, i < n → f i = 0) : sm n f = 0 := by rw [sm_congr h, sm_zero]
theorem sm_add (n : Nat) (f g : Nat → F) : (sm n fun i => f i + g i) = sm n f + sm n g := by
  induction n with
  | zero => exact (F.add_zero 0).symm
  | succ n ih => rw [sm, sm, sm, ih]; ac_rfl
theorem sm_mul (n : Nat) (a : F) (f : Nat → F) : (sm n fun i => a * f i) = a * sm n f := by
  induction n with
  | zero => exact (F.mul_zero a).symm
  | succ n ih => rw [sm, sm, ih, F.mul_add]
theorem sm_mulR (n : Nat) (a : F) (f : Nat → F) : (sm n fun i => f i * a) = sm n f * a := by
  rw [F.mul_comm, ← sm_mul]
  exact sm_congr fun i _ => F.mul_comm _ _
theorem sm_one {n : Nat} {f : Nat → F} (k : Nat) (hk : k < n) (h : ∀ i, i < n → i ≠ k → f i = 0) : sm n f = f k := by
  induction n with
  | zero => omega
  | succ n ih =>
    rw [sm]
    by_cases hn : n = k
    · subst hn
      rw [sm_zero' fun i hi => h i (by omega) (by omega), F.zero_add]
    · rw [ih (by omega) fun i hi => h i (by omega), h n (by omega) hn, F.add_zero]
theorem sm_swap (n m : Nat) (f : Nat → Nat → F) : (sm n fun i => sm m fun j => f i j) = sm m fun j => sm n fun i => f i j := by
  induction n with
  | zero => exact (sm_zero m).symm
  | succ n ih =>
    rw [sm, ih, ← sm_add]
    rfl
theorem sm_front (n : Nat) (f : Nat → F) : sm (n + 1) f = f 0 + sm n fun i => f (i + 1) := by
  induction n with
  | zero => rw [sm, sm, sm, F.zero_add, F.add_zero]
  | succ n ih => rw [sm, ih, sm, F.add_assoc]
/-- A row of a matrix, at a vector. -/
def dt (n : Nat) (r v : Nat → F) : F := sm n fun j => r j * v j
theorem dt_congr {n : Nat} {r r' v v' : Nat → F} (h : ∀ i, i < n → r i = r' i) (hv : ∀ i, i < n → v i = v' i) : dt n r v = dt n r' v' :=
  sm_congr fun i hi => by rw [h i hi, hv i hi]
theorem dt_dt (n m : Nat) (r : Nat → F) (A : Nat → Nat → F) (v : Nat → F) : (dt n r fun i => dt m (A i) v) = dt m (fun j => dt n r fun i => A i j) v := by
  unfold dt
  rw [sm_congr fun i _ => (sm_mul m (r i) fun j => A i j * v j).symm, sm_swap]
  refine sm_congr fun j _ => ?_
  rw [← sm_mulR]
  exact sm_congr fun i _ => (F.mul_assoc _ _ _).symm
theorem dt_mix (n : Nat) (a : F) (r s v : Nat → F) : dt n (fun j => r j + a * s j) v = dt n r v + a * dt n s v := by
  unfold dt
  rw [← sm_mul, ← sm_add]
  exact sm_congr fun i _ => by rw [F.add_mul, F.mul_assoc]
theorem dt_scale (n : Nat) (a : F) (s v : Nat → F) : dt n (fun j => a * s j) v = a * dt n s v := by
  unfold dt
  rw [← sm_mul]
  exact sm_congr fun i _ => F.mul_assoc _ _ _
end Go.Proofs.Ytjgnngnknhkpmaa
