/- The queue's plain law, of items that hold datagrams. -/
import Derived.Lib.Hide
import Derived.Test.YtgdofgckjkmhjaaWcA
namespace Go.Proofs.Ytgdofgckjkmhjaa.Qd
/-- A datagram, where its data lie. -/
structure Dv where
  d : Dg
  p : Option Addr
  c : Nat
deriving instance DecidableEq for Dg
deriving instance DecidableEq for Dv
def dg0 : Dg := ⟨0, 0, 0, 0, 0, 0, 0, 0, 0, 0, []⟩
def dv0 : Dv := ⟨dg0, none, 0⟩
/-- An item of the queue. -/
structure It where
  rank : Int
  turn : Int
  v : Dv
  deriving DecidableEq
def it0 : It := ⟨0, 0, dv0⟩
/-- Does x come ahead of y? -/
def ahB (x y : It) : Bool := decide (x.rank < y.rank ∨ (x.rank = y.rank ∧ x.turn < y.turn))
def le (x y : It) : Prop := x.rank < y.rank ∨ (x.rank = y.rank ∧ x.turn ≤ y.turn)
theorem le_of_not {x y : It} (h : ahB x y = false) : le y x := by
  unfold ahB at h; simp at h; unfold le; omega
theorem le_of_ah {x y : It} (h : ahB x y = true) : le x y := by
  unfold ahB at h; simp at h; unfold le; omega
theorem le_trans {x y z : It} (h : le x y) (k : le y z) : le x z := by unfold le at *; omega
theorem le_refl (x : It) : le x x := by unfold le; omega
def at_ (h : List It) (i : Nat) : It := h.getD i it0
theorem at_set (h : List It) (i j : Nat) (x : It) (hi : i < h.length) : at_ (h.set i x) j = if i = j then x else at_ h j := by
  unfold at_
  simp only [List.getD_eq_getElem?_getD, List.getElem?_set]
  by_cases e : i = j
  · subst e; simp [hi]
  · simp [e]
def swapL (h : List It) (i j : Nat) : List It := (h.set i (at_ h j)).set j (at_ h i)
theorem swap_len (h : List It) (i j : Nat) : (swapL h i j).length = h.length := by simp [swapL]
theorem at_swap (h : List It) (i j k : Nat) (hi : i < h.length) (hj : j < h.length) : at_ (swapL h i j) k = if k = j then at_ h i else if k = i then at_ h j else at_ h k := by
  unfold swapL
  rw [at_set _ _ _ _ (by simpa using hj), at_set _ _ _ _ hi]
  by_cases e1 : k = j
  · subst e1; simp
  · rw [if_neg (by omega), if_neg e1]
    by_cases e2 : k = i
    · subst e2; simp
    · rw [if_neg (by omega), if_neg e2]
theorem swap_perm (h : List It) (i j : Nat) (hi : i < h.length) (hj : j < h.length) (hij : i ≠ j) : (swapL h i j).Perm h := by
  rw [List.perm_iff_count]
  intro a
  unfold swapL
  have ei : at_ h i = h[i] := by simp [at_, List.getD, hi]
  have ej : at_ h j = h[j] := by simp [at_, List.getD, hj]
  rw [ei, ej]
  have h2 : j < (h.set i h[j]).length := by simpa using hj
  rw [List.count_set h2, List.count_set hi, List.getElem_set_ne hij]
  have c1 : h[i] = a → 0 < h.count a := fun e => List.count_pos_iff.2 (e ▸ List.getElem_mem hi)
  have c2 : h[j] = a → 0 < h.count a := fun e => List.count_pos_iff.2 (e ▸ List.getElem_mem hj)
  by_cases e1 : h[i] = a
  · by_cases e2 : h[j] = a
    · have := c1 e1; simp [e1, e2] <;> omega
    · have := c1 e1; simp [e1, e2] <;> omega
  · by_cases e2 : h[j] = a
    · have := c2 e2; simp [e1, e2] <;> omega
    · simp [e1, e2]
def par (j : Nat) : Nat := (j - 1) / 2
def upL (h : List It) (i : Nat) : List It :=
  if _h0 : i = 0 then h else if ahB (at_ h i) (at_ h (par i)) = true then upL (swapL h i (par i)) (par i) else h
termination_by i
decreasing_by unfold par; omega
theorem up_zero (h : List It) : upL h 0 = h := by unfold upL; simp
theorem up_stop (h : List It) (i : Nat) (hn : ahB (at_ h i) (at_ h (par i)) = false) : upL h i = h := by unfold upL; simp [hn]
theorem up_go (h : List It) (i : Nat) (h0 : ¬ i = 0) (hn : ahB (at_ h i) (at_ h (par i)) = true) : upL h i = upL (swapL h i (par i)) (par i) := by
  rw [upL]; simp [h0, hn]
def Heap (h : List It) : Prop := ∀ j, 0 < j → j < h.length → le (at_ h (par j)) (at_ h j)
def UpInv (h : List It) (i : Nat) : Prop := (∀ j, 0 < j → j < h.length → j ≠ i → le (at_ h (par j)) (at_ h j)) ∧ ∀ j, 0 < j → j < h.length → par j = i → 0 < i → le (at_ h (par i)) (at_ h j)
def HeapEx (h : List It) (i : Nat) : Prop := (∀ j, 0 < j → j < h.length → j ≠ i → par j ≠ i → le (at_ h (par j)) (at_ h j)) ∧ ∀ j, 0 < j → j < h.length → par j = i → 0 < i → le (at_ h (par i)) (at_ h j)
theorem par_lt {j : Nat} (h : 0 < j) : par j < j := by unfold par; omega
theorem up_len (n : Nat) : ∀ (h : List It) (i : Nat), i ≤ n → (upL h i).length = h.length := by
  induction n with
  | zero => intro h i hi; rw [show i = 0 by omega, up_zero]
  | succ n ih =>
    intro h i hi
    by_cases h0 : i = 0
    · rw [h0, up_zero]
    · cases hc : ahB (at_ h i) (at_ h (par i))
      · rw [up_stop _ _ hc]
      · rw [up_go _ _ h0 hc, ih _ _ (by have := par_lt (Nat.pos_of_ne_zero h0); omega), swap_len]
theorem up_perm (n : Nat) : ∀ (h : List It) (i : Nat), i ≤ n → i < h.length → (upL h i).Perm h := by
  induction n with
  | zero => intro h i hi _; rw [show i = 0 by omega, up_zero]
  | succ n ih =>
    intro h i hi hl
    by_cases h0 : i = 0
    · rw [h0, up_zero]
    · have hp := par_lt (Nat.pos_of_ne_zero h0)
      cases hc : ahB (at_ h i) (at_ h (par i))
      · rw [up_stop _ _ hc]
      · rw [up_go _ _ h0 hc]
        exact (ih _ _ (by omega) (by rw [swap_len]; omega)).trans (swap_perm h i (par i) hl (by omega) (by omega))
theorem up_heap (n : Nat) : ∀ (h : List It) (i : Nat), i ≤ n → i < h.length → UpInv h i → Heap (upL h i) := by
  induction n with
  | zero =>
    intro h i hi _ hu
    rw [show i = 0 by omega, up_zero]
    intro j h0 hj
    exact hu.1 j h0 hj (by omega)
  | succ n ih =>
    intro h i hi hl hu
    by_cases h0 : i = 0
    · rw [h0, up_zero]
      intro j h0' hj
      exact hu.1 j h0' hj (by omega)
    · have hp := par_lt (Nat.pos_of_ne_zero h0)
      cases hc : ahB (at_ h i) (at_ h (par i))
      · rw [up_stop _ _ hc]
        intro j h0' hj
        by_cases hji : j = i
        · subst hji; exact le_of_not hc
        · exact hu.1 j h0' hj hji
      · rw [up_go _ _ h0 hc]
        have hle := le_of_ah hc
        refine ih _ _ (by omega) (by rw [swap_len]; omega) ⟨?_, ?_⟩
        · intro j hj0 hj hjp
          rw [swap_len] at hj
          have hpj := par_lt hj0
          rw [at_swap _ _ _ _ hl (by omega), at_swap _ _ _ _ hl (by omega)]
          by_cases e1 : j = i
          · subst e1
            rw [if_pos rfl, if_neg (by omega), if_pos rfl]
            exact hle
          · rw [if_neg hjp, if_neg e1]
            by_cases e2 : par j = par i
            · rw [if_pos e2]
              exact le_trans hle (e2 ▸ hu.1 j hj0 hj e1)
            · rw [if_neg e2]
              by_cases e3 : par j = i
              · rw [if_pos e3]
                exact hu.2 j hj0 hj e3 (by omega)
              · rw [if_neg e3]
                exact hu.1 j hj0 hj e1
        · intro j hj0 hj hjp hp0
          rw [swap_len] at hj
          have hpp := par_lt hp0
          have hpj := par_lt hj0
          have hgp := hu.1 (par i) hp0 (by omega) (by omega)
          rw [at_swap _ _ _ _ hl (by omega), at_swap _ _ _ _ hl (by omega), if_neg (by omega), if_neg (by omega), if_neg (by omega)]
          by_cases e1 : j = i
          · rw [if_pos e1]; exact hgp
          · rw [if_neg e1]
            exact le_trans hgp (hjp ▸ hu.1 j hj0 hj e1)
/-- The lesser child. -/
def kid (h : List It) (i : Nat) : Nat := if 2 * i + 2 < h.length ∧ ahB (at_ h (2 * i + 2)) (at_ h (2 * i + 1)) = true then 2 * i + 2 else 2 * i + 1
theorem kid_gt (h : List It) (i : Nat) : i < kid h i := by unfold kid; split <;> omega
theorem kid_lt (h : List It) (i : Nat) (hi : 2 * i + 1 < h.length) : kid h i < h.length := by unfold kid; split <;> omega
theorem kid_par (h : List It) (i : Nat) : par (kid h i) = i := by unfold kid par; split <;> omega
theorem kid_le (h : List It) (i j : Nat) (hj0 : 0 < j) (hj : j < h.length) (hp : par j = i) : le (at_ h (kid h i)) (at_ h j) := by
  have hjj : j = 2 * i + 1 ∨ j = 2 * i + 2 := by unfold par at hp; omega
  unfold kid
  split
  · rename_i hc
    rcases hjj with rfl | rfl
    · exact le_of_ah hc.2
    · exact le_refl _
  · rename_i hc
    rcases hjj with rfl | rfl
    · exact le_refl _
    · cases e : ahB (at_ h (2 * i + 2)) (at_ h (2 * i + 1))
      · exact le_of_not e
      · exact absurd ⟨hj, e⟩ hc
def downL (h : List It) (i : Nat) : List It :=
  if _hk : 2 * i + 1 < h.length then (if ahB (at_ h (kid h i)) (at_ h i) = true then downL (swapL h i (kid h i)) (kid h i) else h) else h
termination_by h.length - i
decreasing_by rw [swap_len]; have := kid_gt h i; have := kid_lt h i _hk; omega
theorem down_end (h : List It) (i : Nat) (hk : ¬ 2 * i + 1 < h.length) : downL h i = h := by rw [downL]; simp [hk]
theorem down_stop (h : List It) (i : Nat) (hn : ahB (at_ h (kid h i)) (at_ h i) = false) : downL h i = h := by rw [downL]; simp [hn]
theorem down_go (h : List It) (i : Nat) (hk : 2 * i + 1 < h.length) (hn : ahB (at_ h (kid h i)) (at_ h i) = true) : downL h i = downL (swapL h i (kid h i)) (kid h i) := by
  rw [downL]; simp [hk, hn]
theorem down_len (n : Nat) : ∀ (h : List It) (i : Nat), h.length ≤ n + i → (downL h i).length = h.length := by
  induction n with
  | zero => intro h i hi; rw [down_end _ _ (by omega)]
  | succ n ih =>
    intro h i hi
    by_cases hk : 2 * i + 1 < h.length
    · cases hc : ahB (at_ h (kid h i)) (at_ h i)
      · rw [down_stop _ _ hc]
      · rw [down_go _ _ hk hc, ih _ _ (by rw [swap_len]; have := kid_gt h i; omega), swap_len]
    · rw [down_end _ _ hk]
theorem down_perm (n : Nat) : ∀ (h : List It) (i : Nat), h.length ≤ n + i → (downL h i).Perm h := by
  induction n with
  | zero => intro h i hi; rw [down_end _ _ (by omega)]
  | succ n ih =>
    intro h i hi
    by_cases hk : 2 * i + 1 < h.length
    · cases hc : ahB (at_ h (kid h i)) (at_ h i)
      · rw [down_stop _ _ hc]
      · rw [down_go _ _ hk hc]
        have hg := kid_gt h i
        have hl := kid_lt h i hk
        exact (ih _ _ (by rw [swap_len]; omega)).trans (swap_perm h i (kid h i) (by omega) hl (by omega))
    · rw [down_end _ _ hk]
theorem ex_swap (h : List It) (i : Nat) (hk : 2 * i + 1 < h.length) (hx : HeapEx h i) (hc : ahB (at_ h (kid h i)) (at_ h i) = true) : HeapEx (swapL h i (kid h i)) (kid h i) ∧ le (at_ (swapL h i (kid h i)) (par (kid h i))) (at_ (swapL h i (kid h i)) (kid h i)) := by
  have hg := kid_gt h i
  have hl := kid_lt h i hk
  have hp := kid_par h i
  have hil : i < h.length := by omega
  refine ⟨⟨?_, ?_⟩, ?_⟩
  · intro j hj0 hj hjk hpk
    rw [swap_len] at hj
    rw [at_swap _ _ _ _ hil hl, at_swap _ _ _ _ hil hl, if_neg hjk, if_neg hpk]
    by_cases e1 : j = i
    · subst e1
      have := par_lt hj0
      rw [if_neg (by omega), if_pos rfl]
      exact hx.2 (kid h j) (by omega) hl hp hj0
    · rw [if_neg e1]
      by_cases e2 : par j = i
      · rw [if_pos e2]; exact kid_le h i j hj0 hj e2
      · rw [if_neg e2]; exact hx.1 j hj0 hj e1 e2
  · intro j hj0 hj hjk _
    rw [swap_len] at hj
    have := par_lt hj0
    rw [hp, at_swap _ _ _ _ hil hl, at_swap _ _ _ _ hil hl, if_neg (by omega), if_pos rfl, if_neg (by omega), if_neg (by omega)]
    exact hjk ▸ hx.1 j hj0 hj (by omega) (by omega)
  · rw [hp, at_swap _ _ _ _ hil hl, at_swap _ _ _ _ hil hl, if_neg (by omega), if_pos rfl, if_pos rfl]
    exact le_of_ah hc
theorem heap_of_ex (h : List It) (i : Nat) (hx : HeapEx h i) (hi : i = 0 ∨ le (at_ h (par i)) (at_ h i)) (hk : ∀ j, 0 < j → j < h.length → par j = i → le (at_ h i) (at_ h j)) : Heap h := by
  intro j hj0 hj
  by_cases e1 : j = i
  · subst e1
    rcases hi with h0 | h1
    · omega
    · exact h1
  · by_cases e2 : par j = i
    · rw [e2]; exact hk j hj0 hj e2
    · exact hx.1 j hj0 hj e1 e2
theorem down_heap (n : Nat) : ∀ (h : List It) (i : Nat), h.length ≤ n + i → HeapEx h i → (i = 0 ∨ le (at_ h (par i)) (at_ h i)) → Heap (downL h i) := by
  induction n with
  | zero =>
    intro h i hi hx hp
    rw [down_end _ _ (by omega)]
    exact heap_of_ex h i hx hp (fun j hj0 hj he => by unfold par at he; omega)
  | succ n ih =>
    intro h i hi hx hp
    by_cases hk : 2 * i + 1 < h.length
    · cases hc : ahB (at_ h (kid h i)) (at_ h i)
      · rw [down_stop _ _ hc]
        exact heap_of_ex h i hx hp (fun j hj0 hj he => le_trans (le_of_not hc) (kid_le h i j hj0 hj he))
      · rw [down_go _ _ hk hc]
        have hs := ex_swap h i hk hx hc
        exact ih _ _ (by rw [swap_len]; have := kid_gt h i; omega) hs.1 (.inr hs.2)
    · rw [down_end _ _ hk]
      exact heap_of_ex h i hx hp (fun j hj0 hj he => by unfold par at he; omega)
theorem heap_up {h : List It} (hh : Heap h) (i : Nat) : UpInv h i :=
  ⟨fun j hj0 hj _ => hh j hj0 hj, fun j hj0 hj hp h0 => by
    have h1 := hh j hj0 hj
    rw [hp] at h1
    exact le_trans (hh i h0 (by have := par_lt hj0; omega)) h1⟩
theorem down_up (h : List It) (i : Nat) (hx : HeapEx h i) : UpInv (downL h i) i := by
  by_cases hk : 2 * i + 1 < h.length
  · cases hc : ahB (at_ h (kid h i)) (at_ h i)
    · rw [down_stop _ _ hc]
      refine ⟨fun j hj0 hj hji => ?_, hx.2⟩
      by_cases e2 : par j = i
      · rw [e2]; exact le_trans (le_of_not hc) (kid_le h i j hj0 hj e2)
      · exact hx.1 j hj0 hj hji e2
    · rw [down_go _ _ hk hc]
      have hs := ex_swap h i hk hx hc
      exact heap_up (down_heap (swapL h i (kid h i)).length _ _ (by omega) hs.1 (.inr hs.2)) i
  · rw [down_end _ _ hk]
    exact ⟨fun j hj0 hj hji => hx.1 j hj0 hj hji (by unfold par; omega), hx.2⟩
/-- The item at i goes. -/
def takeL (h : List It) (i : Nat) : List It :=
  let h1 := (h.set i (at_ h (h.length - 1))).take (h.length - 1)
  if i < h.length - 1 then upL (downL h1 i) i else h1
theorem cut_len (h : List It) (i : Nat) : ((h.set i (at_ h (h.length - 1))).take (h.length - 1)).length = h.length - 1 := by simp
theorem at_cut (h : List It) (i j : Nat) (hi : i < h.length) (hj : j < h.length - 1) : at_ ((h.set i (at_ h (h.length - 1))).take (h.length - 1)) j = if i = j then at_ h (h.length - 1) else at_ h j := by
  rw [← at_set _ _ _ _ hi]
  unfold at_
  simp only [List.getD_eq_getElem?_getD]
  rw [List.getElem?_take_of_lt hj]
theorem take_len (h : List It) (i : Nat) : (takeL h i).length = h.length - 1 := by
  unfold takeL
  simp only
  split
  · rw [up_len _ _ _ (Nat.le_refl _), down_len h.length _ _ (by rw [cut_len]; omega), cut_len]
  · rw [cut_len]
theorem cut_ex (h : List It) (i : Nat) (hh : Heap h) (hi : i < h.length) : HeapEx ((h.set i (at_ h (h.length - 1))).take (h.length - 1)) i := by
  refine ⟨?_, ?_⟩
  · intro j hj0 hj h1 h2
    rw [cut_len] at hj
    have := par_lt hj0
    rw [at_cut _ _ _ hi (by omega), at_cut _ _ _ hi hj, if_neg (by omega), if_neg (by omega)]
    exact hh j hj0 (by omega)
  · intro j hj0 hj h1 h0
    rw [cut_len] at hj
    have := par_lt hj0
    have := par_lt h0
    rw [at_cut _ _ _ hi (by omega), at_cut _ _ _ hi hj, if_neg (by omega), if_neg (by omega)]
    have e1 := hh j hj0 (by omega)
    rw [h1] at e1
    exact le_trans (hh i h0 hi) e1
theorem take_heap (h : List It) (i : Nat) (hh : Heap h) (hi : i < h.length) : Heap (takeL h i) := by
  unfold takeL
  simp only
  split
  · rename_i hlt
    exact up_heap i _ _ (Nat.le_refl _) (by rw [down_len h.length _ _ (by rw [cut_len]; omega), cut_len]; exact hlt) (down_up _ _ (cut_ex h i hh hi))
  · intro j hj0 hj
    rw [cut_len] at hj
    have := par_lt hj0
    rw [at_cut _ _ _ hi (by omega), at_cut _ _ _ hi hj, if_neg (by omega), if_neg (by omega)]
    exact hh j hj0 (by omega)
theorem at_get (h : List It) (i : Nat) (hi : i < h.length) : at_ h i = h[i] := by simp [at_, List.getD, hi]
theorem set_perm (l : List It) (i : Nat) (x : It) (hi : i < l.length) : (l[i] :: l.set i x).Perm (x :: l) := by
  rw [List.perm_iff_count]
  intro a
  have c1 : l[i] = a → 0 < l.count a := fun e => List.count_pos_iff.2 (e ▸ List.getElem_mem hi)
  rw [List.count_cons, List.count_cons, List.count_set hi]
  by_cases e1 : l[i] = a
  · by_cases e2 : x = a
    · have := c1 e1; simp [e1, e2] <;> omega
    · have := c1 e1; simp [e1, e2] <;> omega
  · by_cases e2 : x = a
    · simp [e1, e2]
    · simp [e1, e2]
theorem cut_perm (h : List It) (i : Nat) (hi : i < h.length) : (at_ h i :: (h.set i (at_ h (h.length - 1))).take (h.length - 1)).Perm h := by
  have hl : h = h.take (h.length - 1) ++ [at_ h (h.length - 1)] := by
    rw [at_get _ _ (by omega)]
    have := List.take_append_drop (h.length - 1) h
    rw [List.drop_eq_getElem_cons (by omega), List.drop_of_length_le (by omega)] at this
    exact this.symm
  by_cases hlt : i < h.length - 1
  · have e1 : (h.set i (at_ h (h.length - 1))).take (h.length - 1) = (h.take (h.length - 1)).set i (at_ h (h.length - 1)) := by
      rw [List.take_set]
    rw [e1]
    have e2 : at_ h i = (h.take (h.length - 1))[i]'(by simp; omega) := by rw [at_get _ _ hi]; simp
    rw [e2]
    refine (set_perm _ _ _ _).trans ?_
    conv => rhs; rw [hl]
    exact (List.perm_append_singleton _ _).symm
  · have e0 : i = h.length - 1 := by omega
    have e1 : (h.set i (at_ h (h.length - 1))).take (h.length - 1) = h.take (h.length - 1) := by
      rw [List.take_set, List.set_eq_of_length_le (by simp; omega)]
    rw [e1, e0]
    conv => rhs; rw [hl]
    exact (List.perm_append_singleton _ _).symm
theorem take_perm (h : List It) (i : Nat) (hi : i < h.length) : (at_ h i :: takeL h i).Perm h := by
  refine List.Perm.trans ?_ (cut_perm h i hi)
  refine List.Perm.cons _ ?_
  unfold takeL
  simp only
  split
  · rename_i hlt
    exact (up_perm i _ _ (Nat.le_refl _) (by rw [down_len h.length _ _ (by rw [cut_len]; omega), cut_len]; exact hlt)).trans (down_perm h.length _ _ (by rw [cut_len]; omega))
  · exact List.Perm.refl _
/-- Where the one that comes last stands, of the first n. -/
def lastK (h : List It) : Nat → Nat
  | 0 => 0
  | n + 1 => if ahB (at_ h (lastK h n)) (at_ h n) = true then n else lastK h n
theorem lastK_lt (h : List It) (n : Nat) : lastK h n < n + 1 := by
  induction n with
  | zero => simp [lastK]
  | succ n ih => unfold lastK; split <;> omega
theorem lastK_lt' (h : List It) (n : Nat) (h0 : 0 < n) : lastK h n < n := by
  induction n with
  | zero => omega
  | succ n ih =>
    unfold lastK
    split
    · omega
    · rcases Nat.eq_zero_or_pos n with rfl | hp
      · simp [lastK]
      · have := ih hp; omega
theorem lastK_le (h : List It) (n : Nat) : ∀ j, j < n → le (at_ h j) (at_ h (lastK h n)) := by
  induction n with
  | zero => intro j hj; omega
  | succ n ih =>
    intro j hj
    unfold lastK
    split
    · rename_i hc
      by_cases e : j = n
      · subst e; exact le_refl _
      · exact le_trans (ih j (by omega)) (le_of_ah hc)
    · rename_i hc
      by_cases e : j = n
      · subst e; exact le_of_not (by simpa using hc)
      · exact ih j (by omega)
/-- The root is the least. -/
theorem heap_root (h : List It) (hh : Heap h) (n : Nat) : ∀ j, j ≤ n → j < h.length → le (at_ h 0) (at_ h j) := by
  induction n with
  | zero => intro j hj _; rw [show j = 0 by omega]; exact le_refl _
  | succ n ih =>
    intro j hj hl
    rcases Nat.eq_zero_or_pos j with rfl | h0
    · exact le_refl _
    · have := par_lt h0
      exact le_trans (ih (par j) (by omega) (by omega)) (hh j h0 hl)
theorem heap_min (h : List It) (hh : Heap h) (x : It) (hx : x ∈ h) : le (at_ h 0) x := by
  obtain ⟨i, hi, rfl⟩ := List.getElem_of_mem hx
  rw [← at_get _ _ hi]
  exact heap_root h hh i i (Nat.le_refl _) hi
/-- One more behind, moved up. -/
def addL (h : List It) (x : It) : List It := upL (h ++ [x]) h.length
theorem add_len (h : List It) (x : It) : (addL h x).length = h.length + 1 := by unfold addL; rw [up_len _ _ _ (Nat.le_refl _)]; simp
theorem add_perm (h : List It) (x : It) : (addL h x).Perm (x :: h) :=
  (up_perm h.length _ _ (Nat.le_refl _) (by simp)).trans (List.perm_append_singleton _ _)
theorem at_app (h : List It) (x : It) (j : Nat) (hj : j < h.length) : at_ (h ++ [x]) j = at_ h j := by
  unfold at_; simp only [List.getD_eq_getElem?_getD]; rw [List.getElem?_append_left hj]
theorem add_heap (h : List It) (x : It) (hh : Heap h) : Heap (addL h x) := by
  refine up_heap h.length _ _ (Nat.le_refl _) (by simp) ⟨?_, ?_⟩
  · intro j hj0 hj hne
    have hj' : j < h.length := by simp at hj; omega
    have := par_lt hj0
    rw [at_app _ _ _ (by omega), at_app _ _ _ hj']
    exact hh j hj0 hj'
  · intro j hj0 hj hp h0
    simp at hj
    unfold par at hp
    omega
theorem heap_nil : Heap [] := fun j _ hj => by simp at hj
end Go.Proofs.Ytgdofgckjkmhjaa.Qd
