/- The program's matrices: swap. -/
import Derived.Test.YtjgnngnknhkpmaaMatH
namespace Go.Proofs.Ytjgnngnknhkpmaa
open Go Go.RowKit
theorem setAll_one (ys : List Value) (o : Nat) (l : List Value) (j : Nat) (v : Value) (hj : j < l.length) (h : o + l.length ≤ ys.length) (hy : ∀ t, t < l.length → ys[o + t]? = l[t]?) : setAll ys o (l.set j v) = ys.set (o + j) v := by
  refine List.ext_getElem? fun p => ?_
  rw [setAll_get _ _ _ (by rw [List.length_set]; exact h), List.length_set]
  by_cases hp : o + j = p
  · subst hp
    rw [if_pos (by omega), show o + j - o = j by omega, List.getElem?_set_self hj, List.getElem?_set_self (by omega)]
  · rw [List.getElem?_set_ne hp]
    by_cases hq : o ≤ p ∧ p < o + l.length
    · rw [if_pos hq, List.getElem?_set_ne (by omega), ← hy (p - o) (by omega), show o + (p - o) = p by omega]
    · rw [if_neg hq]
theorem oct_set {l : List Nat} (h : Oct l) (j v : Nat) (hv : v < 256) : Oct (l.set j v) := by
  intro x hx
  rcases List.mem_or_eq_of_mem_set hx with h1 | h1
  · exact h x h1
  · rw [h1]; exact hv
theorem cellsM_cell {r c : Nat} {m : List (List Nat)} (h : Mt r c m) (rest : List Value) {i j v : Nat} (hi : i < r) (hj : j < c) (hv : v < 256) : (cellsM m rest).set (i * c + j) (bn v) = cellsM (m.set i ((rw m i).set j v)) rest := by
  have hl := h.len hi
  have he := row_end (c := c) hi
  rw [← cellsM_put h rest hi (x := (rw m i).set j v) (by rw [List.length_set]; exact hl) (oct_set (h.rowOct hi) j v hv), List.map_set]
  refine (setAll_one _ _ _ _ _ (by rw [List.length_map, hl]; exact hj) (by rw [List.length_map, hl, cellsM_len h]; omega) fun t ht => ?_).symm
  rw [List.length_map, hl] at ht
  rw [cellsM_at h rest hi ht, List.getElem?_map, List.getElem?_eq_getElem (by omega), List.getD_eq_getElem?_getD, List.getElem?_eq_getElem (by omega)]
  rfl
def swapM (m : List (List Nat)) (i k : Nat) : List (List Nat) := if i = k then m else (m.set i (rw m k)).set k (rw m i)
def swp (c : Nat) (x y : List Nat) (n : Nat) : List Nat := tab c fun j => if j < n then y.getD j 0 else x.getD j 0
def swS (c : Nat) (m : List (List Nat)) (i k n : Nat) : List (List Nat) := (m.set i (swp c (rw m i) (rw m k) n)).set k (swp c (rw m k) (rw m i) n)
theorem swp_len (c : Nat) (x y : List Nat) (n : Nat) : (swp c x y n).length = c := tab_len _ _
theorem swp_oct {c : Nat} {x y : List Nat} (hx : Oct x) (hy : Oct y) (n : Nat) : Oct (swp c x y n) := by
  intro z hz
  unfold swp tab at hz
  simp only [List.mem_map, List.mem_range] at hz
  obtain ⟨j, _, rfl⟩ := hz
  split
  · exact hy.at j
  · exact hx.at j
theorem swp_0 {c : Nat} {x y : List Nat} (hx : x.length = c) : swp c x y 0 = x := by
  refine (tab_eq hx fun i hi => ?_).symm
  rw [if_neg (by omega), List.getD_eq_getElem?_getD, List.getElem?_eq_getElem (by omega)]
  rfl
theorem swp_all {c : Nat} {x y : List Nat} (hy : y.length = c) : swp c x y c = y := by
  refine (tab_eq hy fun i hi => ?_).symm
  rw [if_pos hi, List.getD_eq_getElem?_getD, List.getElem?_eq_getElem (by omega)]
  rfl
theorem swp_step {c : Nat} {x y : List Nat} {n : Nat} (hn : n < c) : (swp c x y n).set n (y.getD n 0) = swp c x y (n + 1) :=
  tab_set hn (by simp) fun j _ hj => by
    by_cases h : j < n
    · rw [if_pos h, if_pos (by omega)]
    · rw [if_neg h, if_neg (by omega)]
theorem swp_at {c : Nat} {x y : List Nat} {n : Nat} (hn : n < c) : (swp c x y n).getD n 0 = x.getD n 0 := by
  rw [List.getD_eq_getElem?_getD, swp, tab_get hn, if_neg (by omega)]
  rfl
theorem swS_mt {r c : Nat} {m : List (List Nat)} (h : Mt r c m) {i k : Nat} (hi : i < r) (hk : k < r) (n : Nat) : Mt r c (swS c m i k n) :=
  (h.set i (swp_len _ _ _ _) (swp_oct (h.rowOct hi) (h.rowOct hk) n)).set k (swp_len _ _ _ _) (swp_oct (h.rowOct hk) (h.rowOct hi) n)
theorem set_self {m : List (List Nat)} {i : Nat} (hi : i < m.length) : m.set i (rw m i) = m := by
  rw [rw_get hi]
  exact List.set_getElem_self hi
theorem swS_0 {r c : Nat} {m : List (List Nat)} (h : Mt r c m) {i k : Nat} (hi : i < r) (hk : k < r) : swS c m i k 0 = m := by
  rw [swS, swp_0 (h.len hi), swp_0 (h.len hk), set_self (by rw [h.rows]; exact hi), set_self (by rw [h.rows]; exact hk)]
theorem swS_all {r c : Nat} {m : List (List Nat)} (h : Mt r c m) {i k : Nat} (hi : i < r) (hk : k < r) (hne : i ≠ k) : swS c m i k c = swapM m i k := by
  rw [swS, swp_all (h.len hk), swp_all (h.len hi), swapM, if_neg hne]
theorem swS_i {r c : Nat} {m : List (List Nat)} (h : Mt r c m) {i k : Nat} (hi : i < r) (hk : k < r) (hne : i ≠ k) (n : Nat) : rw (swS c m i k n) i = swp c (rw m i) (rw m k) n := by
  rw [swS, rw_set (by rw [List.length_set, h.rows]; exact hk), if_neg hne, rw_set (by rw [h.rows]; exact hi), if_pos rfl]
theorem swS_k {r c : Nat} {m : List (List Nat)} (h : Mt r c m) {i k : Nat} (hk : k < r) (n : Nat) : rw (swS c m i k n) k = swp c (rw m k) (rw m i) n := by
  rw [swS, rw_set (by rw [List.length_set, h.rows]; exact hk), if_pos rfl]
theorem set4 (m : List (List Nat)) {i k : Nat} (hne : i ≠ k) (A A' B B' : List Nat) : (((m.set i A).set k B).set i A').set k B' = (m.set i A').set k B' := by
  rw [List.set_comm B A' (Ne.symm hne), List.set_set, List.set_set]
/-- One place of both rows is turned. -/
theorem swS_step {r c : Nat} {m : List (List Nat)} (h : Mt r c m) (rest : List Value) {i k n : Nat} (hi : i < r) (hk : k < r) (hne : i ≠ k) (hn : n < c) :
    ((cellsM (swS c m i k n) rest).set (i * c + n) (bn ((rw m k).getD n 0))).set (k * c + n) (bn ((rw m i).getD n 0)) = cellsM (swS c m i k (n + 1)) rest := by
  have hm := swS_mt h hi hk n
  have e1 := cellsM_cell hm rest hi hn ((h.rowOct hk).at n)
  rw [e1, swS_i h hi hk hne, swp_step hn]
  have hm2 : Mt r c ((swS c m i k n).set i (swp c (rw m i) (rw m k) (n + 1))) := hm.set i (swp_len _ _ _ _) (swp_oct (h.rowOct hi) (h.rowOct hk) _)
  have e2 := cellsM_cell hm2 rest hk hn ((h.rowOct hi).at n)
  rw [e2]
  congr 1
  have e3 : rw ((swS c m i k n).set i (swp c (rw m i) (rw m k) (n + 1))) k = swp c (rw m k) (rw m i) n := by
    rw [rw_set (by rw [hm.rows]; exact hi), if_neg (Ne.symm hne), swS_k h hk]
  rw [e3, swp_step hn, swS, swS, set4 _ hne]
end Go.Proofs.Ytjgnngnknhkpmaa
