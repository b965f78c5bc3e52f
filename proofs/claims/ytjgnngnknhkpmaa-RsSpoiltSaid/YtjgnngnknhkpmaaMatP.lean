/- Matrices as lists of rows, and the row of cells in which they lie. -/
import Derived.Test.YtjgnngnknhkpmaaGfD
namespace Go.Proofs.Ytjgnngnknhkpmaa
open Go Go.RowKit
/-- So many rows, each so long, of bytes. -/
structure Mt (r c : Nat) (m : List (List Nat)) : Prop where
  rows : m.length = r
  cols : ∀ x ∈ m, x.length = c
  oct : ∀ x ∈ m, Oct x
def rw (m : List (List Nat)) (i : Nat) : List Nat := m.getD i []
theorem rw_get {m : List (List Nat)} {i : Nat} (h : i < m.length) : rw m i = m[i] := by simp [rw, List.getD_eq_getElem?_getD, h]
theorem Mt.len {r c : Nat} {m : List (List Nat)} (h : Mt r c m) {i : Nat} (hi : i < r) : (rw m i).length = c := by
  rw [rw_get (by rw [h.rows]; exact hi)]; exact h.cols _ (List.getElem_mem _)
theorem Mt.rowOct {r c : Nat} {m : List (List Nat)} (h : Mt r c m) {i : Nat} (hi : i < r) : Oct (rw m i) := by
  rw [rw_get (by rw [h.rows]; exact hi)]; exact h.oct _ (List.getElem_mem _)
theorem Mt.set {r c : Nat} {m : List (List Nat)} (h : Mt r c m) (i : Nat) {x : List Nat} (hx : x.length = c) (ho : Oct x) : Mt r c (m.set i x) := by
  refine ⟨by rw [List.length_set]; exact h.rows, fun y hy => ?_, fun y hy => ?_⟩
  · rcases List.mem_or_eq_of_mem_set hy with h1 | h1
    · exact h.cols y h1
    · rw [h1]; exact hx
  · rcases List.mem_or_eq_of_mem_set hy with h1 | h1
    · exact h.oct y h1
    · rw [h1]; exact ho
theorem rw_set {m : List (List Nat)} {i j : Nat} {x : List Nat} (hi : i < m.length) : rw (m.set i x) j = if j = i then x else rw m j := by
  unfold rw
  rw [List.getD_eq_getElem?_getD, List.getD_eq_getElem?_getD, List.getElem?_set]
  by_cases h : i = j
  · subst h; rw [if_pos rfl, if_pos hi, if_pos rfl]; rfl
  · rw [if_neg h, if_neg (Ne.symm h)]
theorem flat_len : ∀ (m : List (List Nat)) (c : Nat), (∀ x ∈ m, x.length = c) → m.flatten.length = m.length * c
  | [], c, _ => by simp
  | x :: m, c, h => by
    rw [List.flatten_cons, List.length_append, flat_len m c (fun y hy => h y (by simp [hy])), h x (by simp), List.length_cons, Nat.add_mul]
    omega
theorem flat_at : ∀ (m : List (List Nat)) (c : Nat), (∀ x ∈ m, x.length = c) → ∀ i j, i < m.length → j < c → m.flatten[i * c + j]? = (rw m i)[j]?
  | [], c, _, i, j, hi, _ => by simp at hi
  | x :: m, c, h, i, j, hi, hj => by
    have hx := h x (by simp)
    rw [List.flatten_cons]
    cases i with
    | zero =>
      rw [Nat.zero_mul, Nat.zero_add, List.getElem?_append_left (by omega)]
      rfl
    | succ i =>
      have e : (i + 1) * c + j = c + (i * c + j) := by rw [Nat.add_mul]; omega
      rw [e, List.getElem?_append_right (by omega), hx, show c + (i * c + j) - c = i * c + j by omega, flat_at m c (fun y hy => h y (by simp [hy])) i j (by simpa using hi) hj]
      rfl
theorem div_lt' {p r c : Nat} (h : p < r * c) : p / c < r := by
  have hc : 0 < c := by
    rcases Nat.eq_zero_or_pos c with h0 | h0
    · subst h0; simp at h
    · exact h0
  exact (Nat.div_lt_iff_lt_mul hc).2 h
theorem mod_lt' {p r c : Nat} (h : p < r * c) : p % c < c := by
  rcases Nat.eq_zero_or_pos c with h0 | h0
  · subst h0; simp at h
  · exact Nat.mod_lt _ h0
theorem div_mod' (p c : Nat) : p / c * c + p % c = p := by rw [Nat.mul_comm]; exact Nat.div_add_mod p c
def cellsM (m : List (List Nat)) (rest : List Value) : List Value := m.flatten.map bn ++ rest
theorem cellsM_at {r c : Nat} {m : List (List Nat)} (h : Mt r c m) (rest : List Value) {i j : Nat} (hi : i < r) (hj : j < c) : (cellsM m rest)[i * c + j]? = some (bn ((rw m i).getD j 0)) := by
  have h1 := flat_at m c h.cols i j (by rw [h.rows]; exact hi) hj
  have h2 : j < (rw m i).length := by rw [h.len hi]; exact hj
  have h3 : i * c + j < m.flatten.length := by
    rw [flat_len m c h.cols, h.rows]
    have := Nat.mul_le_mul_right c (show i + 1 ≤ r by omega)
    rw [Nat.add_mul] at this
    omega
  unfold cellsM
  rw [List.getElem?_append_left (by rw [List.length_map]; exact h3), List.getElem?_map, h1, List.getElem?_eq_getElem h2, List.getD_eq_getElem?_getD, List.getElem?_eq_getElem h2]
  rfl
theorem cellsM_len {r c : Nat} {m : List (List Nat)} (h : Mt r c m) (rest : List Value) : (cellsM m rest).length = r * c + rest.length := by
  unfold cellsM
  rw [List.length_append, List.length_map, flat_len m c h.cols, h.rows]
theorem row_end {r c i : Nat} (hi : i < r) : i * c + c ≤ r * c := by
  have := Nat.mul_le_mul_right c (show i + 1 ≤ r by omega)
  rw [Nat.add_mul] at this
  omega
/-- A row is put. -/
theorem cellsM_put {r c : Nat} {m : List (List Nat)} (h : Mt r c m) (rest : List Value) {i : Nat} (hi : i < r) {x : List Nat} (hx : x.length = c) (ho : Oct x) : setAll (cellsM m rest) (i * c) (x.map bn) = cellsM (m.set i x) rest := by
  have hs := h.set i hx ho
  have he := row_end (c := c) hi
  refine List.ext_getElem? fun p => ?_
  rw [setAll_get _ _ _ (by rw [cellsM_len h, List.length_map, hx]; omega), List.length_map, hx]
  rcases Nat.lt_or_ge p (r * c) with hp | hp
  · have hd := div_lt' hp
    have hm := mod_lt' hp
    have e := div_mod' p c
    have h1 := cellsM_at h rest hd hm
    have h2 := cellsM_at hs rest hd hm
    rw [e] at h1 h2
    rw [h1, h2, rw_set (by rw [h.rows]; exact hi)]
    by_cases hq : p / c = i
    · rw [if_pos hq]
      rw [hq] at e
      rw [if_pos (by omega), show p - i * c = p % c by omega, List.getElem?_map, List.getElem?_eq_getElem (by omega), List.getD_eq_getElem?_getD, List.getElem?_eq_getElem (by omega)]
      rfl
    · rw [if_neg hq, if_neg]
      rintro ⟨h3, h4⟩
      apply hq
      have h5 : p = (p - i * c) + i * c := by omega
      rw [h5, Nat.add_mul_div_right _ _ (by omega), Nat.div_eq_of_lt (by omega)]
      omega
  · rw [if_neg (by omega)]
    unfold cellsM
    rw [List.getElem?_append_right (by rw [List.length_map, flat_len m c h.cols, h.rows]; exact hp), List.getElem?_append_right (by rw [List.length_map, flat_len _ c hs.cols, hs.rows]; exact hp), List.length_map, List.length_map, flat_len m c h.cols, flat_len _ c hs.cols, h.rows, hs.rows]
/-- All by a rule. -/
def genM (r c : Nat) (f : Nat → Nat → Nat) : List (List Nat) := tab r fun i => tab c fun j => f i j
theorem genM_rw {r c : Nat} {f : Nat → Nat → Nat} {i : Nat} (hi : i < r) : rw (genM r c f) i = tab c fun j => f i j := by
  unfold rw genM
  rw [List.getD_eq_getElem?_getD, tab_get hi]
  rfl
theorem genM_mt {r c : Nat} {f : Nat → Nat → Nat} (h : ∀ i j, f i j < 256) : Mt r c (genM r c f) := by
  refine ⟨tab_len _ _, fun x hx => ?_, fun x hx => ?_⟩
  · unfold genM tab at hx
    simp only [List.mem_map, List.mem_range] at hx
    obtain ⟨i, _, rfl⟩ := hx
    simp
  · unfold genM tab at hx
    simp only [List.mem_map, List.mem_range] at hx
    obtain ⟨i, _, rfl⟩ := hx
    intro y hy
    simp only [List.mem_map, List.mem_range] at hy
    obtain ⟨j, _, rfl⟩ := hy
    exact h _ _
theorem genM_cells {r c : Nat} {f : Nat → Nat → Nat} (h : ∀ i j, f i j < 256) : cellsM (genM r c f) [] = tab (r * c) fun p => bn (f (p / c) (p % c)) := by
  have hm := genM_mt (r := r) (c := c) h
  refine tab_eq (by rw [cellsM_len hm]; rfl) fun p hp => ?_
  have hd := div_lt' hp
  have hmo := mod_lt' hp
  have h1 := cellsM_at hm [] hd hmo
  rw [div_mod'] at h1
  rw [h1, genM_rw hd, List.getD_eq_getElem?_getD, tab_get hmo]
  rfl
end Go.Proofs.Ytjgnngnknhkpmaa
