/- The queue and the document's sorted list. -/
import Derived.Test.YtgdofgckjkmhjaaQdP
namespace Go.Proofs.Ytgdofgckjkmhjaa.Qd
/-- From m on all is in order. -/
def HeapM (m : Nat) (h : List It) : Prop := ∀ j, 0 < j → j < h.length → m ≤ par j → le (at_ h (par j)) (at_ h j)
def ExM (m : Nat) (h : List It) (i : Nat) : Prop := (∀ j, 0 < j → j < h.length → m ≤ par j → j ≠ i → par j ≠ i → le (at_ h (par j)) (at_ h j)) ∧ ∀ j, 0 < j → j < h.length → par j = i → m < i → m ≤ par i → le (at_ h (par i)) (at_ h j)
theorem exM_swap (m : Nat) (h : List It) (i : Nat) (hm : m ≤ i) (hk : 2 * i + 1 < h.length) (hx : ExM m h i) (hc : ahB (at_ h (kid h i)) (at_ h i) = true) : ExM m (swapL h i (kid h i)) (kid h i) ∧ le (at_ (swapL h i (kid h i)) (par (kid h i))) (at_ (swapL h i (kid h i)) (kid h i)) := by
  have hg := kid_gt h i
  have hl := kid_lt h i hk
  have hp := kid_par h i
  have hil : i < h.length := by omega
  refine ⟨⟨?_, ?_⟩, ?_⟩
  · intro j hj0 hj hmj hjk hpk
    rw [swap_len] at hj
    rw [at_swap _ _ _ _ hil hl, at_swap _ _ _ _ hil hl, if_neg hjk, if_neg hpk]
    by_cases e1 : j = i
    · subst e1
      have := par_lt hj0
      rw [if_neg (by omega), if_pos rfl]
      exact hx.2 (kid h j) (by omega) hl hp (by omega) hmj
    · rw [if_neg e1]
      by_cases e2 : par j = i
      · rw [if_pos e2]; exact kid_le h i j hj0 hj e2
      · rw [if_neg e2]; exact hx.1 j hj0 hj hmj e1 e2
  · intro j hj0 hj hjk _ _
    rw [swap_len] at hj
    have := par_lt hj0
    rw [hp, at_swap _ _ _ _ hil hl, at_swap _ _ _ _ hil hl, if_neg (by omega), if_pos rfl, if_neg (by omega), if_neg (by omega)]
    exact hjk ▸ hx.1 j hj0 hj (by omega) (by omega) (by omega)
  · rw [hp, at_swap _ _ _ _ hil hl, at_swap _ _ _ _ hil hl, if_neg (by omega), if_pos rfl, if_pos rfl]
    exact le_of_ah hc
theorem heapM_of (m : Nat) (h : List It) (i : Nat) (hx : ExM m h i) (hi : i = m ∨ le (at_ h (par i)) (at_ h i)) (hk : ∀ j, 0 < j → j < h.length → par j = i → le (at_ h i) (at_ h j)) : HeapM m h := by
  intro j hj0 hj hmj
  by_cases e1 : j = i
  · subst e1
    rcases hi with h0 | h1
    · have := par_lt hj0; omega
    · exact h1
  · by_cases e2 : par j = i
    · rw [e2]; exact hk j hj0 hj e2
    · exact hx.1 j hj0 hj hmj e1 e2
theorem down_heapM (m : Nat) (n : Nat) : ∀ (h : List It) (i : Nat), m ≤ i → h.length ≤ n + i → ExM m h i → (i = m ∨ le (at_ h (par i)) (at_ h i)) → HeapM m (downL h i) := by
  induction n with
  | zero =>
    intro h i hm hi hx hp
    rw [down_end _ _ (by omega)]
    exact heapM_of m h i hx hp (fun j hj0 hj he => by unfold par at he; omega)
  | succ n ih =>
    intro h i hm hi hx hp
    by_cases hk : 2 * i + 1 < h.length
    · cases hc : ahB (at_ h (kid h i)) (at_ h i)
      · rw [down_stop _ _ hc]
        exact heapM_of m h i hx hp (fun j hj0 hj he => le_trans (le_of_not hc) (kid_le h i j hj0 hj he))
      · rw [down_go _ _ hk hc]
        have hs := exM_swap m h i hm hk hx hc
        exact ih _ _ (by have := kid_gt h i; omega) (by rw [swap_len]; have := kid_gt h i; omega) hs.1 (.inr hs.2)
    · rw [down_end _ _ hk]
      exact heapM_of m h i hx hp (fun j hj0 hj he => by unfold par at he; omega)
theorem heapM_step (m : Nat) (h : List It) (hh : HeapM (m + 1) h) : HeapM m (downL h m) :=
  down_heapM m h.length h m (Nat.le_refl _) (by omega) ⟨fun j hj0 hj hmj _ hp => hh j hj0 hj (by omega), fun j _ _ _ h1 _ => by omega⟩ (.inl rfl)
theorem heapM_half (h : List It) : HeapM (h.length / 2) h := fun j hj0 hj hm => by unfold par at hm; omega
theorem heapM_0 (h : List It) (hh : HeapM 0 h) : Heap h := fun j hj0 hj => hh j hj0 hj (by omega)
/-- All below k is put in order, from the highest down. -/
def fixL (h : List It) : Nat → List It
  | 0 => h
  | k + 1 => fixL (downL h k) k
theorem fix_heap (k : Nat) : ∀ h : List It, HeapM k h → Heap (fixL h k) := by
  induction k with
  | zero => intro h hh; exact heapM_0 h hh
  | succ k ih => intro h hh; exact ih _ (heapM_step k h hh)
theorem fix_perm (k : Nat) : ∀ h : List It, (fixL h k).Perm h := by
  induction k with
  | zero => intro h; exact List.Perm.refl _
  | succ k ih => intro h; exact (ih _).trans (down_perm h.length h k (by omega))
theorem fix_len (h : List It) (k : Nat) : (fixL h k).length = h.length := (fix_perm k h).length_eq
/-- Strictly ahead. -/
def lt (x y : It) : Prop := x.rank < y.rank ∨ (x.rank = y.rank ∧ x.turn < y.turn)
theorem lt_trans {x y z : It} (h : lt x y) (k : lt y z) : lt x z := by unfold lt at *; omega
theorem not_lt_le {x y : It} (h : lt x y) : ¬ le y x := by unfold lt le at *; omega
/-- A new item's place: behind all that are as urgent. -/
def insS : List It → It → List It
  | [], x => [x]
  | y :: s, x => if x.rank < y.rank then x :: y :: s else y :: insS s x
theorem ins_perm (s : List It) (x : It) : (insS s x).Perm (x :: s) := by
  induction s with
  | nil => exact List.Perm.refl _
  | cons y s ih =>
    unfold insS
    split
    · exact List.Perm.refl _
    · exact (List.Perm.cons y ih).trans (List.Perm.swap x y s)
theorem ins_len (s : List It) (x : It) : (insS s x).length = s.length + 1 := by rw [(ins_perm s x).length_eq]; rfl
theorem ins_ord (s : List It) (x : It) (hs : s.Pairwise lt) (ht : ∀ y ∈ s, y.turn < x.turn) : (insS s x).Pairwise lt := by
  induction s with
  | nil => simp [insS]
  | cons y s ih =>
    rw [List.pairwise_cons] at hs
    unfold insS
    split
    · rename_i h
      rw [List.pairwise_cons]
      refine ⟨fun z hz => ?_, List.pairwise_cons.2 hs⟩
      simp only [List.mem_cons] at hz
      rcases hz with rfl | hz
      · exact .inl h
      · exact lt_trans (.inl h) (hs.1 z hz)
    · rename_i h
      rw [List.pairwise_cons]
      refine ⟨fun z hz => ?_, ih hs.2 (fun z hz => ht z (by simp [hz]))⟩
      have hz' := (ins_perm s x).mem_iff.1 hz
      simp only [List.mem_cons] at hz'
      rcases hz' with rfl | hz'
      · have := ht y (by simp)
        unfold lt; omega
      · exact hs.1 z hz'
/-- The heap h and the list s hold the same. -/
structure Rp (h : List It) (T : Int) (s : List It) : Prop where
  perm : s.Perm h
  ord : s.Pairwise lt
  top : ∀ x ∈ s, x.turn ≤ T
  heap : Heap h
theorem Rp.len {h : List It} {T : Int} {s : List It} (r : Rp h T s) : s.length = h.length := r.perm.length_eq
theorem Rp.nil : Rp [] 0 [] := ⟨List.Perm.refl _, List.Pairwise.nil, by simp, heap_nil⟩
theorem Rp.mono {h : List It} {T U : Int} {s : List It} (r : Rp h T s) (hu : T ≤ U) : Rp h U s := ⟨r.perm, r.ord, fun x hx => Int.le_trans (r.top x hx) hu, r.heap⟩
theorem Rp.add {h : List It} {T : Int} {s : List It} (r : Rp h T s) (rank : Int) (v : Dv) : Rp (addL h ⟨rank, T + 1, v⟩) (T + 1) (insS s ⟨rank, T + 1, v⟩) := by
  refine ⟨(ins_perm _ _).trans ((List.Perm.cons _ r.perm).trans (add_perm h _).symm), ins_ord _ _ r.ord fun y hy => ?_, fun x hx => ?_, add_heap h _ r.heap⟩
  · have := r.top y hy; simp only; omega
  · have hx' := (ins_perm _ _).mem_iff.1 hx
    simp only [List.mem_cons] at hx'
    rcases hx' with rfl | hx'
    · exact Int.le_refl _
    · have := r.top x hx'; omega
/-- What comes last goes. -/
theorem Rp.drop {h : List It} {T : Int} {s : List It} (r : Rp h T s) (h0 : 0 < h.length) :
    ∃ hs : s ≠ [], at_ h (lastK h h.length) = s.getLast hs ∧ Rp (takeL h (lastK h h.length)) T s.dropLast := by
  have hs : s ≠ [] := fun e => by have := r.len; rw [e] at this; simp at this; omega
  have hk := lastK_lt' h h.length h0
  have hmax := lastK_le h h.length
  have hsp : s.dropLast ++ [s.getLast hs] = s := List.dropLast_concat_getLast hs
  have hord := r.ord
  rw [← hsp, List.pairwise_append] at hord
  have hin : at_ h (lastK h h.length) ∈ s := r.perm.mem_iff.2 (by rw [at_get _ _ hk]; exact List.getElem_mem _)
  have heq : at_ h (lastK h h.length) = s.getLast hs := by
    rw [← hsp] at hin
    simp only [List.mem_append, List.mem_singleton] at hin
    rcases hin with hin | hin
    · exfalso
      have h1 := hord.2.2 _ hin _ (List.mem_singleton.2 rfl)
      have h2 : s.getLast hs ∈ h := r.perm.mem_iff.1 (List.getLast_mem hs)
      obtain ⟨j, hj, he⟩ := List.getElem_of_mem h2
      have h3 := hmax j hj
      rw [at_get _ _ hj, he] at h3
      exact not_lt_le h1 h3
    · exact hin
  refine ⟨hs, heq, ?_, hord.1, fun x hx => r.top x (List.dropLast_subset s hx), take_heap h _ r.heap hk⟩
  have p1 := take_perm h (lastK h h.length) hk
  have p2 : (s.getLast hs :: s.dropLast).Perm s := by
    rw [← List.singleton_append]
    exact List.perm_append_comm.trans (by rw [hsp])
  rw [heq] at p1
  exact List.Perm.cons_inv (p2.trans (r.perm.trans p1.symm))
/-- The first one goes. -/
theorem Rp.pop {h : List It} {T : Int} {x : It} {s : List It} (r : Rp h T (x :: s)) : at_ h 0 = x ∧ Rp (takeL h 0) T s := by
  have hl := r.len
  simp only [List.length_cons] at hl
  have h0 : 0 < h.length := by omega
  have hord := r.ord
  rw [List.pairwise_cons] at hord
  have hin : at_ h 0 ∈ x :: s := r.perm.mem_iff.2 (by rw [at_get _ _ h0]; exact List.getElem_mem _)
  have heq : at_ h 0 = x := by
    simp only [List.mem_cons] at hin
    rcases hin with hin | hin
    · exact hin
    · exact absurd (heap_min h r.heap x (r.perm.mem_iff.1 (by simp))) (not_lt_le (hord.1 _ hin))
  refine ⟨heq, ?_, hord.2, fun y hy => r.top y (by simp [hy]), take_heap h 0 r.heap h0⟩
  have p1 := take_perm h 0 h0
  rw [heq] at p1
  exact List.Perm.cons_inv (r.perm.trans p1.symm)
theorem Rp.filter {h : List It} {T : Int} {s : List It} (r : Rp h T s) (p : It → Bool) : Rp (fixL (h.filter p) ((h.filter p).length / 2)) T (s.filter p) :=
  ⟨(r.perm.filter p).trans (fix_perm _ _).symm, r.ord.filter p, fun x hx => r.top x (List.mem_filter.1 hx).1, fix_heap _ _ (heapM_half _)⟩
/-- What the document sees of it. -/
def pr (x : It) : Int × Dv := (x.rank, x.v)
def insR : List (Int × Dv) → Int × Dv → List (Int × Dv)
  | [], x => [x]
  | y :: s, x => if x.1 < y.1 then x :: y :: s else y :: insR s x
theorem ins_map (s : List It) (x : It) : (insS s x).map pr = insR (s.map pr) (pr x) := by
  induction s with
  | nil => rfl
  | cons y s ih =>
    unfold insS
    simp only [List.map_cons, insR, pr]
    split
    · simp [pr]
    · simp only [List.map_cons, pr, ih]
end Go.Proofs.Ytgdofgckjkmhjaa.Qd
