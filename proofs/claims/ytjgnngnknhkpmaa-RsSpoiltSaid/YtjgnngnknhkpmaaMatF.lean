/- The program's matrices: Mul. -/
import Derived.Test.YtjgnngnknhkpmaaMatE
namespace Go.Proofs.Ytjgnngnknhkpmaa
open Go Go.RowKit
def mulRow (c : Nat) (b : List (List Nat)) (ra : List Nat) : Nat → List Nat
  | 0 => List.replicate c 0
  | k + 1 => mixL (ra.getD k 0) (mulRow c b ra k) (rw b k)
theorem mulRow_ok {rb c : Nat} {b : List (List Nat)} (hb : Mt rb c b) (ra : List Nat) : ∀ k, k ≤ rb → (mulRow c b ra k).length = c ∧ Oct (mulRow c b ra k)
  | 0, _ => ⟨by simp [mulRow], fun x hx => by rw [mulRow, List.mem_replicate] at hx; rw [hx.2]; omega⟩
  | k + 1, hk => by
    obtain ⟨h1, h2⟩ := mulRow_ok hb ra k (by omega)
    have h3 := hb.len (i := k) (by omega)
    refine ⟨?_, ?_⟩
    · rw [mulRow, mixL_len _ _ _ (by omega)]; exact h1
    · rw [mulRow]; exact mixL_oct h2 (by omega)
def mulM (c : Nat) (a b : List (List Nat)) : List (List Nat) := a.map fun ra => mulRow c b ra b.length
def mulS (c : Nat) (a b : List (List Nat)) (i k : Nat) : List (List Nat) := tab a.length fun j => mulRow c b (rw a j) (if j < i then b.length else if j = i then k else 0)
theorem mulS_mt {rb c : Nat} {b : List (List Nat)} (hb : Mt rb c b) (a : List (List Nat)) (i k : Nat) (hk : k ≤ rb) : Mt a.length c (mulS c a b i k) := by
  have h : ∀ j, (if j < i then b.length else if j = i then k else 0) ≤ rb := fun j => by
    have := hb.rows
    split
    · omega
    · split <;> omega
  refine ⟨tab_len _ _, fun x hx => ?_, fun x hx => ?_⟩
  · unfold mulS tab at hx
    simp only [List.mem_map, List.mem_range] at hx
    obtain ⟨j, _, rfl⟩ := hx
    exact (mulRow_ok hb _ _ (h j)).1
  · unfold mulS tab at hx
    simp only [List.mem_map, List.mem_range] at hx
    obtain ⟨j, _, rfl⟩ := hx
    exact (mulRow_ok hb _ _ (h j)).2
theorem mulS_0 (c : Nat) (a b : List (List Nat)) : (List.replicate (a.length * c) 0).map bn = cellsM (mulS c a b 0 0) [] := by
  have e : mulS c a b 0 0 = List.replicate a.length (List.replicate c 0) := by
    refine (tab_eq (by simp) fun i hi => ?_).symm
    rw [List.getElem?_replicate, if_pos hi]
    simp [mulRow]
  rw [e, cellsM, flat_zero, List.append_nil]
theorem mulS_rw (c : Nat) (a b : List (List Nat)) (i k : Nat) (hi : i < a.length) : rw (mulS c a b i k) i = mulRow c b (rw a i) k := by
  unfold rw mulS
  rw [List.getD_eq_getElem?_getD, tab_get hi]
  simp [rw]
theorem mulS_step (c : Nat) (a b : List (List Nat)) (i k : Nat) (hi : i < a.length) : (mulS c a b i k).set i (mixL ((rw a i).getD k 0) (mulRow c b (rw a i) k) (rw b k)) = mulS c a b i (k + 1) := by
  refine tab_set hi ?_ fun j _ hj => ?_
  · simp [mulRow]
  · by_cases h : j < i
    · rw [if_pos h, if_pos h]
    · rw [if_neg h, if_neg h, if_neg hj, if_neg hj]
theorem mulS_next (c : Nat) (a b : List (List Nat)) (i : Nat) : mulS c a b i b.length = mulS c a b (i + 1) 0 := by
  refine tab_ext fun j _ => ?_
  congr 1
  by_cases h : j < i
  · rw [if_pos h, if_pos (by omega)]
  · rw [if_neg h]
    by_cases h2 : j = i
    · rw [if_pos h2, if_pos (by omega)]
    · rw [if_neg h2, if_neg (by omega)]
      split <;> rfl
theorem mulS_all (c : Nat) (a b : List (List Nat)) : mulS c a b a.length 0 = mulM c a b := by
  refine (tab_eq (by simp [mulM]) fun i hi => ?_).symm
  rw [mulM, List.getElem?_map, List.getElem?_eq_getElem hi, if_pos hi]
  simp [rw, List.getD_eq_getElem?_getD, hi]
/-- Mix at a row of one matrix by a row of another. -/
theorem mixrow_any {t b1 b2 r1 r2 c cap1 cap2 i k x : Nat} {m1 m2 : List (List Nat)} {rest1 rest2 : List Value} (w : World) (hT : Blk w t (tabC 255) 73) (hx : x < 256) (h1 : Blk w b1 (cellsM m1 rest1) 5) (hm1 : Mt r1 c m1) (hi : i < r1)
    (h2 : Blk w b2 (cellsM m2 rest2) 5) (hm2 : Mt r2 c m2) (hk : k < r2) (hne : b2 ≠ b1 ∨ (b2 = b1 ∧ r1 = r2 ∧ i ≠ k)) (ht : t ≠ b1) (hc : c ≤ 255) :
    Calls Try.prog 51 #[.pointer (some ⟨t, 0, none⟩), .slice (some ⟨b1, i * c, none⟩) c cap1, .int .u8 x, .slice (some ⟨b2, k * c, none⟩) c cap2] w fun e w' => e = .returned (.tuple #[]) ∧ Blk w' b1 (cellsM (m1.set i (mixL x (rw m1 i) (rw m2 k))) rest1) 5 ∧ Kept [b1] w w' := by
  refine (mix_any t x b1 (i * c) cap1 c cap2 (some ⟨b2, k * c, none⟩) (cellsM m1 rest1) (rw m1 i) (rw m2 k) w hT hx h1 (hm1.len hi) (hm2.len hk) (hm1.rowOct hi) (hm2.rowOct hk) (fun j hj => cellsM_at hm1 rest1 hi hj)
    (fun j hj => ⟨b2, k * c, rfl, row_cells h2 hm2 hk j (by rw [hm2.len hk] at hj; exact hj)⟩) (fun b' o' he => ?_) ht (by omega)).mono ?_
  · simp only [Option.some.injEq, Addr.mk.injEq, and_true] at he
    obtain ⟨rfl, rfl⟩ := he
    rcases hne with h | ⟨h, _, h3⟩
    · exact .inl h
    · right
      rcases Nat.lt_or_gt_of_ne h3 with h4 | h4
      · right
        have := Nat.mul_le_mul_right c (show i + 1 ≤ k by omega)
        rw [Nat.add_mul] at this
        omega
      · left
        have := Nat.mul_le_mul_right c (show k + 1 ≤ i by omega)
        rw [Nat.add_mul] at this
        omega
  · rintro e w' ⟨rfl, hb, hk'⟩
    refine ⟨rfl, ?_, hk'⟩
    rw [cellsM_put hm1 rest1 hi (by rw [mixL_len _ _ _ (by rw [hm1.len hi, hm2.len hk])]; exact hm1.len hi) (mixL_oct (hm1.rowOct hi) (by rw [hm1.len hi, hm2.len hk]))] at hb
    exact hb
end Go.Proofs.Ytjgnngnknhkpmaa
