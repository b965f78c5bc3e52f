/- The queue's plain law, of items that hold datagrams. The queue and the document's sorted list. The queue of datagrams, in memory. -/
import Derived.Lib.Hide
import Derived.Test.YtgdofgckjkmhjaaGreatPk05
import Derived.Test.YtgdofgckjkmhjaaGreatProg
import Derived.Handy
import Derived.LoopTactic
import Derived.Outline
import Derived.BigQuiet
import Derived.BigGuardPart
import Derived.Deep.RegionHeld3
import Derived.Deep.DeepCutAuto
import Derived.Deep.MidRow
set_option linter.unusedSimpArgs false
set_option linter.unusedVariables false
namespace Go.Proofs.YtgdofgckjkmhjaaGreat.Qd
/-- A datagram, where its data lie. -/
structure Dv where
  d : Dg
  p : Option Addr
  c : Nat
deriving instance DecidableEq for Dg
deriving instance DecidableEq for Dv
def dg0 : Dg := ⟨0, 0, 0, 0, 0, 0, 0, 0, 0, 0, []⟩
def dv0 : Dv := ⟨dg0, none, 0⟩
/-- An item of the queue. -/
structure It where
  rank : Int
  turn : Int
  v : Dv
  deriving DecidableEq
def it0 : It := ⟨0, 0, dv0⟩
/-- Does x come ahead of y? -/
def ahB (x y : It) : Bool := decide (x.rank < y.rank ∨ (x.rank = y.rank ∧ x.turn < y.turn))
def le (x y : It) : Prop := x.rank < y.rank ∨ (x.rank = y.rank ∧ x.turn ≤ y.turn)
theorem le_of_not {x y : It} (h : ahB x y = false) : le y x := by
  unfold ahB at h; simp at h; unfold le; omega
theorem le_of_ah {x y : It} (h : ahB x y = true) : le x y := by
  unfold ahB at h; simp at h; unfold le; omega
theorem le_trans {x y z : It} (h : le x y) (k : le y z) : le x z := by unfold le at *; omega
theorem le_refl (x : It) : le x x := by unfold le; omega
def at_ (h : List It) (i : Nat) : It := h.getD i it0
theorem at_set (h : List It) (i j : Nat) (x : It) (hi : i < h.length) : at_ (h.set i x) j = if i = j then x else at_ h j := by
  unfold at_
  simp only [List.getD_eq_getElem?_getD, List.getElem?_set]
  by_cases e : i = j
  · subst e; simp [hi]
  · simp [e]
def swapL (h : List It) (i j : Nat) : List It := (h.set i (at_ h j)).set j (at_ h i)
theorem swap_len (h : List It) (i j : Nat) : (swapL h i j).length = h.length := by simp [swapL]
theorem at_swap (h : List It) (i j k : Nat) (hi : i < h.length) (hj : j < h.length) : at_ (swapL h i j) k = if k = j then at_ h i else if k = i then at_ h j else at_ h k := by
  unfold swapL
  rw [at_set _ _ _ _ (by simpa using hj), at_set _ _ _ _ hi]
  by_cases e1 : k = j
  · subst e1; simp
  · rw [if_neg (by omega), if_neg e1]
    by_cases e2 : k = i
    · subst e2; simp
    · rw [if_neg (by omega), if_neg e2]
theorem swap_perm (h : List It) (i j : Nat) (hi : i < h.length) (hj : j < h.length) (hij : i ≠ j) : (swapL h i j).Perm h := by
  rw [List.perm_iff_count]
  intro a
  unfold swapL
  have ei : at_ h i = h[i] := by simp [at_, List.getD, hi]
  have ej : at_ h j = h[j] := by simp [at_, List.getD, hj]
  rw [ei, ej]
  have h2 : j < (h.set i h[j]).length := by simpa using hj
  rw [List.count_set h2, List.count_set hi, List.getElem_set_ne hij]
  have c1 : h[i] = a → 0 < h.count a := fun e => List.count_pos_iff.2 (e ▸ List.getElem_mem hi)
  have c2 : h[j] = a → 0 < h.count a := fun e => List.count_pos_iff.2 (e ▸ List.getElem_mem hj)
  by_cases e1 : h[i] = a
  · by_cases e2 : h[j] = a
    · have := c1 e1; simp [e1, e2] <;> omega
    · have := c1 e1; simp [e1, e2] <;> omega
  · by_cases e2 : h[j] = a
    · have := c2 e2; simp [e1, e2] <;> omega
    · simp [e1, e2]
def par (j : Nat) : Nat := (j - 1) / 2
def upL (h : List It) (i : Nat) : List It :=
  if _h0 : i = 0 then h else if ahB (at_ h i) (at_ h (par i)) = true then upL (swapL h i (par i)) (par i) else h
termination_by i
decreasing_by unfold par; omega
theorem up_zero (h : List It) : upL h 0 = h := by unfold upL; simp
theorem up_stop (h : List It) (i : Nat) (hn : ahB (at_ h i) (at_ h (par i)) = false) : upL h i = h := by unfold upL; simp [hn]
theorem up_go (h : List It) (i : Nat) (h0 : ¬ i = 0) (hn : ahB (at_ h i) (at_ h (par i)) = true) : upL h i = upL (swapL h i (par i)) (par i) := by
  rw [upL]; simp [h0, hn]
def Heap (h : List It) : Prop := ∀ j, 0 < j → j < h.length → le (at_ h (par j)) (at_ h j)
def UpInv (h : List It) (i : Nat) : Prop := (∀ j, 0 < j → j < h.length → j ≠ i → le (at_ h (par j)) (at_ h j)) ∧ ∀ j, 0 < j → j < h.length → par j = i → 0 < i → le (at_ h (par i)) (at_ h j)
def HeapEx (h : List It) (i : Nat) : Prop := (∀ j, 0 < j → j < h.length → j ≠ i → par j ≠ i → le (at_ h (par j)) (at_ h j)) ∧ ∀ j, 0 < j → j < h.length → par j = i → 0 < i → le (at_ h (par i)) (at_ h j)
theorem par_lt {j : Nat} (h : 0 < j) : par j < j := by unfold par; omega
theorem up_len (n : Nat) : ∀ (h : List It) (i : Nat), i ≤ n → (upL h i).length = h.length := by
  induction n with
  | zero => intro h i hi; rw [show i = 0 by omega, up_zero]
  | succ n ih =>
    intro h i hi
    by_cases h0 : i = 0
    · rw [h0, up_zero]
    · cases hc : ahB (at_ h i) (at_ h (par i))
      · rw [up_stop _ _ hc]
      · rw [up_go _ _ h0 hc, ih _ _ (by have := par_lt (Nat.pos_of_ne_zero h0); omega), swap_len]
theorem up_perm (n : Nat) : ∀ (h : List It) (i : Nat), i ≤ n → i < h.length → (upL h i).Perm h := by
  induction n with
  | zero => intro h i hi _; rw [show i = 0 by omega, up_zero]
  | succ n ih =>
    intro h i hi hl
    by_cases h0 : i = 0
    · rw [h0, up_zero]
    · have hp := par_lt (Nat.pos_of_ne_zero h0)
      cases hc : ahB (at_ h i) (at_ h (par i))
      · rw [up_stop _ _ hc]
      · rw [up_go _ _ h0 hc]
        exact (ih _ _ (by omega) (by rw [swap_len]; omega)).trans (swap_perm h i (par i) hl (by omega) (by omega))
theorem up_heap (n : Nat) : ∀ (h : List It) (i : Nat), i ≤ n → i < h.length → UpInv h i → Heap (upL h i) := by
  induction n with
  | zero =>
    intro h i hi _ hu
    rw [show i = 0 by omega, up_zero]
    intro j h0 hj
    exact hu.1 j h0 hj (by omega)
  | succ n ih =>
    intro h i hi hl hu
    by_cases h0 : i = 0
    · rw [h0, up_zero]
      intro j h0' hj
      exact hu.1 j h0' hj (by omega)
    · have hp := par_lt (Nat.pos_of_ne_zero h0)
      cases hc : ahB (at_ h i) (at_ h (par i))
      · rw [up_stop _ _ hc]
        intro j h0' hj
        by_cases hji : j = i
        · subst hji; exact le_of_not hc
        · exact hu.1 j h0' hj hji
      · rw [up_go _ _ h0 hc]
        have hle := le_of_ah hc
        refine ih _ _ (by omega) (by rw [swap_len]; omega) ⟨?_, ?_⟩
        · intro j hj0 hj hjp
          rw [swap_len] at hj
          have hpj := par_lt hj0
          rw [at_swap _ _ _ _ hl (by omega), at_swap _ _ _ _ hl (by omega)]
          by_cases e1 : j = i
          · subst e1
            rw [if_pos rfl, if_neg (by omega), if_pos rfl]
            exact hle
          · rw [if_neg hjp, if_neg e1]
            by_cases e2 : par j = par i
            · rw [if_pos e2]
              exact le_trans hle (e2 ▸ hu.1 j hj0 hj e1)
            · rw [if_neg e2]
              by_cases e3 : par j = i
              · rw [if_pos e3]
                exact hu.2 j hj0 hj e3 (by omega)
              · rw [if_neg e3]
                exact hu.1 j hj0 hj e1
        · intro j hj0 hj hjp hp0
          rw [swap_len] at hj
          have hpp := par_lt hp0
          have hpj := par_lt hj0
          have hgp := hu.1 (par i) hp0 (by omega) (by omega)
          rw [at_swap _ _ _ _ hl (by omega), at_swap _ _ _ _ hl (by omega), if_neg (by omega), if_neg (by omega), if_neg (by omega)]
          by_cases e1 : j = i
          · rw [if_pos e1]; exact hgp
          · rw [if_neg e1]
            exact le_trans hgp (hjp ▸ hu.1 j hj0 hj e1)
/-- The lesser child. -/
def kid (h : List It) (i : Nat) : Nat := if 2 * i + 2 < h.length ∧ ahB (at_ h (2 * i + 2)) (at_ h (2 * i + 1)) = true then 2 * i + 2 else 2 * i + 1
theorem kid_gt (h : List It) (i : Nat) : i < kid h i := by unfold kid; split <;> omega
theorem kid_lt (h : List It) (i : Nat) (hi : 2 * i + 1 < h.length) : kid h i < h.length := by unfold kid; split <;> omega
theorem kid_par (h : List It) (i : Nat) : par (kid h i) = i := by unfold kid par; split <;> omega
theorem kid_le (h : List It) (i j : Nat) (hj0 : 0 < j) (hj : j < h.length) (hp : par j = i) : le (at_ h (kid h i)) (at_ h j) := by
  have hjj : j = 2 * i + 1 ∨ j = 2 * i + 2 := by unfold par at hp; omega
  unfold kid
  split
  · rename_i hc
    rcases hjj with rfl | rfl
    · exact le_of_ah hc.2
    · exact le_refl _
  · rename_i hc
    rcases hjj with rfl | rfl
    · exact le_refl _
    · cases e : ahB (at_ h (2 * i + 2)) (at_ h (2 * i + 1))
      · exact le_of_not e
      · exact absurd ⟨hj, e⟩ hc
def downL (h : List It) (i : Nat) : List It :=
  if _hk : 2 * i + 1 < h.length then (if ahB (at_ h (kid h i)) (at_ h i) = true then downL (swapL h i (kid h i)) (kid h i) else h) else h
termination_by h.length - i
decreasing_by rw [swap_len]; have := kid_gt h i; have := kid_lt h i _hk; omega
theorem down_end (h : List It) (i : Nat) (hk : ¬ 2 * i + 1 < h.length) : downL h i = h := by rw [downL]; simp [hk]
theorem down_stop (h : List It) (i : Nat) (hn : ahB (at_ h (kid h i)) (at_ h i) = false) : downL h i = h := by rw [downL]; simp [hn]
theorem down_go (h : List It) (i : Nat) (hk : 2 * i + 1 < h.length) (hn : ahB (at_ h (kid h i)) (at_ h i) = true) : downL h i = downL (swapL h i (kid h i)) (kid h i) := by
  rw [downL]; simp [hk, hn]
theorem down_len (n : Nat) : ∀ (h : List It) (i : Nat), h.length ≤ n + i → (downL h i).length = h.length := by
  induction n with
  | zero => intro h i hi; rw [down_end _ _ (by omega)]
  | succ n ih =>
    intro h i hi
    by_cases hk : 2 * i + 1 < h.length
    · cases hc : ahB (at_ h (kid h i)) (at_ h i)
      · rw [down_stop _ _ hc]
      · rw [down_go _ _ hk hc, ih _ _ (by rw [swap_len]; have := kid_gt h i; omega), swap_len]
    · rw [down_end _ _ hk]
theorem down_perm (n : Nat) : ∀ (h : List It) (i : Nat), h.length ≤ n + i → (downL h i).Perm h := by
  induction n with
  | zero => intro h i hi; rw [down_end _ _ (by omega)]
  | succ n ih =>
    intro h i hi
    by_cases hk : 2 * i + 1 < h.length
    · cases hc : ahB (at_ h (kid h i)) (at_ h i)
      · rw [down_stop _ _ hc]
      · rw [down_go _ _ hk hc]
        have hg := kid_gt h i
        have hl := kid_lt h i hk
        exact (ih _ _ (by rw [swap_len]; omega)).trans (swap_perm h i (kid h i) (by omega) hl (by omega))
    · rw [down_end _ _ hk]
theorem ex_swap (h : List It) (i : Nat) (hk : 2 * i + 1 < h.length) (hx : HeapEx h i) (hc : ahB (at_ h (kid h i)) (at_ h i) = true) : HeapEx (swapL h i (kid h i)) (kid h i) ∧ le (at_ (swapL h i (kid h i)) (par (kid h i))) (at_ (swapL h i (kid h i)) (kid h i)) := by
  have hg := kid_gt h i
  have hl := kid_lt h i hk
  have hp := kid_par h i
  have hil : i < h.length := by omega
  refine ⟨⟨?_, ?_⟩, ?_⟩
  · intro j hj0 hj hjk hpk
    rw [swap_len] at hj
    rw [at_swap _ _ _ _ hil hl, at_swap _ _ _ _ hil hl, if_neg hjk, if_neg hpk]
    by_cases e1 : j = i
    · subst e1
      have := par_lt hj0
      rw [if_neg (by omega), if_pos rfl]
      exact hx.2 (kid h j) (by omega) hl hp hj0
    · rw [if_neg e1]
      by_cases e2 : par j = i
      · rw [if_pos e2]; exact kid_le h i j hj0 hj e2
      · rw [if_neg e2]; exact hx.1 j hj0 hj e1 e2
  · intro j hj0 hj hjk _
    rw [swap_len] at hj
    have := par_lt hj0
    rw [hp, at_swap _ _ _ _ hil hl, at_swap _ _ _ _ hil hl, if_neg (by omega), if_pos rfl, if_neg (by omega), if_neg (by omega)]
    exact hjk ▸ hx.1 j hj0 hj (by omega) (by omega)
  · rw [hp, at_swap _ _ _ _ hil hl, at_swap _ _ _ _ hil hl, if_neg (by omega), if_pos rfl, if_pos rfl]
    exact le_of_ah hc
theorem heap_of_ex (h : List It) (i : Nat) (hx : HeapEx h i) (hi : i = 0 ∨ le (at_ h (par i)) (at_ h i)) (hk : ∀ j, 0 < j → j < h.length → par j = i → le (at_ h i) (at_ h j)) : Heap h := by
  intro j hj0 hj
  by_cases e1 : j = i
  · subst e1
    rcases hi with h0 | h1
    · omega
    · exact h1
  · by_cases e2 : par j = i
    · rw [e2]; exact hk j hj0 hj e2
    · exact hx.1 j hj0 hj e1 e2
theorem down_heap (n : Nat) : ∀ (h : List It) (i : Nat), h.length ≤ n + i → HeapEx h i → (i = 0 ∨ le (at_ h (par i)) (at_ h i)) → Heap (downL h i) := by
  induction n with
  | zero =>
    intro h i hi hx hp
    rw [down_end _ _ (by omega)]
    exact heap_of_ex h i hx hp (fun j hj0 hj he => by unfold par at he; omega)
  | succ n ih =>
    intro h i hi hx hp
    by_cases hk : 2 * i + 1 < h.length
    · cases hc : ahB (at_ h (kid h i)) (at_ h i)
      · rw [down_stop _ _ hc]
        exact heap_of_ex h i hx hp (fun j hj0 hj he => le_trans (le_of_not hc) (kid_le h i j hj0 hj he))
      · rw [down_go _ _ hk hc]
        have hs := ex_swap h i hk hx hc
        exact ih _ _ (by rw [swap_len]; have := kid_gt h i; omega) hs.1 (.inr hs.2)
    · rw [down_end _ _ hk]
      exact heap_of_ex h i hx hp (fun j hj0 hj he => by unfold par at he; omega)
theorem heap_up {h : List It} (hh : Heap h) (i : Nat) : UpInv h i :=
  ⟨fun j hj0 hj _ => hh j hj0 hj, fun j hj0 hj hp h0 => by
    have h1 := hh j hj0 hj
    rw [hp] at h1
    exact le_trans (hh i h0 (by have := par_lt hj0; omega)) h1⟩
theorem down_up (h : List It) (i : Nat) (hx : HeapEx h i) : UpInv (downL h i) i := by
  by_cases hk : 2 * i + 1 < h.length
  · cases hc : ahB (at_ h (kid h i)) (at_ h i)
    · rw [down_stop _ _ hc]
      refine ⟨fun j hj0 hj hji => ?_, hx.2⟩
      by_cases e2 : par j = i
      · rw [e2]; exact le_trans (le_of_not hc) (kid_le h i j hj0 hj e2)
      · exact hx.1 j hj0 hj hji e2
    · rw [down_go _ _ hk hc]
      have hs := ex_swap h i hk hx hc
      exact heap_up (down_heap (swapL h i (kid h i)).length _ _ (by omega) hs.1 (.inr hs.2)) i
  · rw [down_end _ _ hk]
    exact ⟨fun j hj0 hj hji => hx.1 j hj0 hj hji (by unfold par; omega), hx.2⟩
/-- The item at i goes. -/
def takeL (h : List It) (i : Nat) : List It :=
  let h1 := (h.set i (at_ h (h.length - 1))).take (h.length - 1)
  if i < h.length - 1 then upL (downL h1 i) i else h1
theorem cut_len (h : List It) (i : Nat) : ((h.set i (at_ h (h.length - 1))).take (h.length - 1)).length = h.length - 1 := by simp
theorem at_cut (h : List It) (i j : Nat) (hi : i < h.length) (hj : j < h.length - 1) : at_ ((h.set i (at_ h (h.length - 1))).take (h.length - 1)) j = if i = j then at_ h (h.length - 1) else at_ h j := by
  rw [← at_set _ _ _ _ hi]
  unfold at_
  simp only [List.getD_eq_getElem?_getD]
  rw [List.getElem?_take_of_lt hj]
theorem take_len (h : List It) (i : Nat) : (takeL h i).length = h.length - 1 := by
  unfold takeL
  simp only
  split
  · rw [up_len _ _ _ (Nat.le_refl _), down_len h.length _ _ (by rw [cut_len]; omega), cut_len]
  · rw [cut_len]
theorem cut_ex (h : List It) (i : Nat) (hh : Heap h) (hi : i < h.length) : HeapEx ((h.set i (at_ h (h.length - 1))).take (h.length - 1)) i := by
  refine ⟨?_, ?_⟩
  · intro j hj0 hj h1 h2
    rw [cut_len] at hj
    have := par_lt hj0
    rw [at_cut _ _ _ hi (by omega), at_cut _ _ _ hi hj, if_neg (by omega), if_neg (by omega)]
    exact hh j hj0 (by omega)
  · intro j hj0 hj h1 h0
    rw [cut_len] at hj
    have := par_lt hj0
    have := par_lt h0
    rw [at_cut _ _ _ hi (by omega), at_cut _ _ _ hi hj, if_neg (by omega), if_neg (by omega)]
    have e1 := hh j hj0 (by omega)
    rw [h1] at e1
    exact le_trans (hh i h0 hi) e1
theorem take_heap (h : List It) (i : Nat) (hh : Heap h) (hi : i < h.length) : Heap (takeL h i) := by
  unfold takeL
  simp only
  split
  · rename_i hlt
    exact up_heap i _ _ (Nat.le_refl _) (by rw [down_len h.length _ _ (by rw [cut_len]; omega), cut_len]; exact hlt) (down_up _ _ (cut_ex h i hh hi))
  · intro j hj0 hj
    rw [cut_len] at hj
    have := par_lt hj0
    rw [at_cut _ _ _ hi (by omega), at_cut _ _ _ hi hj, if_neg (by omega), if_neg (by omega)]
    exact hh j hj0 (by omega)
theorem at_get (h : List It) (i : Nat) (hi : i < h.length) : at_ h i = h[i] := by simp [at_, List.getD, hi]
theorem set_perm (l : List It) (i : Nat) (x : It) (hi : i < l.length) : (l[i] :: l.set i x).Perm (x :: l) := by
  rw [List.perm_iff_count]
  intro a
  have c1 : l[i] = a → 0 < l.count a := fun e => List.count_pos_iff.2 (e ▸ List.getElem_mem hi)
  rw [List.count_cons, List.count_cons, List.count_set hi]
  by_cases e1 : l[i] = a
  · by_cases e2 : x = a
    · have := c1 e1; simp [e1, e2] <;> omega
    · have := c1 e1; simp [e1, e2] <;> omega
  · by_cases e2 : x = a
    · simp [e1, e2]
    · simp [e1, e2]
theorem cut_perm (h : List It) (i : Nat) (hi : i < h.length) : (at_ h i :: (h.set i (at_ h (h.length - 1))).take (h.length - 1)).Perm h := by
  have hl : h = h.take (h.length - 1) ++ [at_ h (h.length - 1)] := by
    rw [at_get _ _ (by omega)]
    have := List.take_append_drop (h.length - 1) h
    rw [List.drop_eq_getElem_cons (by omega), List.drop_of_length_le (by omega)] at this
    exact this.symm
  by_cases hlt : i < h.length - 1
  · have e1 : (h.set i (at_ h (h.length - 1))).take (h.length - 1) = (h.take (h.length - 1)).set i (at_ h (h.length - 1)) := by
      rw [List.take_set]
    rw [e1]
    have e2 : at_ h i = (h.take (h.length - 1))[i]'(by simp; omega) := by rw [at_get _ _ hi]; simp
    rw [e2]
    refine (set_perm _ _ _ _).trans ?_
    conv => rhs; rw [hl]
    exact (List.perm_append_singleton _ _).symm
  · have e0 : i = h.length - 1 := by omega
    have e1 : (h.set i (at_ h (h.length - 1))).take (h.length - 1) = h.take (h.length - 1) := by
      rw [List.take_set, List.set_eq_of_length_le (by simp; omega)]
    rw [e1, e0]
    conv => rhs; rw [hl]
    exact (List.perm_append_singleton _ _).symm
theorem take_perm (h : List It) (i : Nat) (hi : i < h.length) : (at_ h i :: takeL h i).Perm h := by
  refine List.Perm.trans ?_ (cut_perm h i hi)
  refine List.Perm.cons _ ?_
  unfold takeL
  simp only
  split
  · rename_i hlt
    exact (up_perm i _ _ (Nat.le_refl _) (by rw [down_len h.length _ _ (by rw [cut_len]; omega), cut_len]; exact hlt)).trans (down_perm h.length _ _ (by rw [cut_len]; omega))
  · exact List.Perm.refl _
/-- Where the one that comes last stands, of the first n. -/
def lastK (h : List It) : Nat → Nat
  | 0 => 0
  | n + 1 => if ahB (at_ h (lastK h n)) (at_ h n) = true then n else lastK h n
theorem lastK_lt (h : List It) (n : Nat) : lastK h n < n + 1 := by
  induction n with
  | zero => simp [lastK]
  | succ n ih => unfold lastK; split <;> omega
theorem lastK_lt' (h : List It) (n : Nat) (h0 : 0 < n) : lastK h n < n := by
  induction n with
  | zero => omega
  | succ n ih =>
    unfold lastK
    split
    · omega
    · rcases Nat.eq_zero_or_pos n with rfl | hp
      · simp [lastK]
      · have := ih hp; omega
theorem lastK_le (h : List It) (n : Nat) : ∀ j, j < n → le (at_ h j) (at_ h (lastK h n)) := by
  induction n with
  | zero => intro j hj; omega
  | succ n ih =>
    intro j hj
    unfold lastK
    split
    · rename_i hc
      by_cases e : j = n
      · subst e; exact le_refl _
      · exact le_trans (ih j (by omega)) (le_of_ah hc)
    · rename_i hc
      by_cases e : j = n
      · subst e; exact le_of_not (by simpa using hc)
      · exact ih j (by omega)
/-- The root is the least. -/
theorem heap_root (h : List It) (hh : Heap h) (n : Nat) : ∀ j, j ≤ n → j < h.length → le (at_ h 0) (at_ h j) := by
  induction n with
  | zero => intro j hj _; rw [show j = 0 by omega]; exact le_refl _
  | succ n ih =>
    intro j hj hl
    rcases Nat.eq_zero_or_pos j with rfl | h0
    · exact le_refl _
    · have := par_lt h0
      exact le_trans (ih (par j) (by omega) (by omega)) (hh j h0 hl)
theorem heap_min (h : List It) (hh : Heap h) (x : It) (hx : x ∈ h) : le (at_ h 0) x := by
  obtain ⟨i, hi, rfl⟩ := List.getElem_of_mem hx
  rw [← at_get _ _ hi]
  exact heap_root h hh i i (Nat.le_refl _) hi
/-- One more behind, moved up. -/
def addL (h : List It) (x : It) : List It := upL (h ++ [x]) h.length
theorem add_len (h : List It) (x : It) : (addL h x).length = h.length + 1 := by unfold addL; rw [up_len _ _ _ (Nat.le_refl _)]; simp
theorem add_perm (h : List It) (x : It) : (addL h x).Perm (x :: h) :=
  (up_perm h.length _ _ (Nat.le_refl _) (by simp)).trans (List.perm_append_singleton _ _)
theorem at_app (h : List It) (x : It) (j : Nat) (hj : j < h.length) : at_ (h ++ [x]) j = at_ h j := by
  unfold at_; simp only [List.getD_eq_getElem?_getD]; rw [List.getElem?_append_left hj]
theorem add_heap (h : List It) (x : It) (hh : Heap h) : Heap (addL h x) := by
  refine up_heap h.length _ _ (Nat.le_refl _) (by simp) ⟨?_, ?_⟩
  · intro j hj0 hj hne
    have hj' : j < h.length := by simp at hj; omega
    have := par_lt hj0
    rw [at_app _ _ _ (by omega), at_app _ _ _ hj']
    exact hh j hj0 hj'
  · intro j hj0 hj hp h0
    simp at hj
    unfold par at hp
    omega
theorem heap_nil : Heap [] := fun j _ hj => by simp at hj
end Go.Proofs.YtgdofgckjkmhjaaGreat.Qd
namespace Go.Proofs.YtgdofgckjkmhjaaGreat.Qd
/-- From m on all is in order. -/
def HeapM (m : Nat) (h : List It) : Prop := ∀ j, 0 < j → j < h.length → m ≤ par j → le (at_ h (par j)) (at_ h j)
def ExM (m : Nat) (h : List It) (i : Nat) : Prop := (∀ j, 0 < j → j < h.length → m ≤ par j → j ≠ i → par j ≠ i → le (at_ h (par j)) (at_ h j)) ∧ ∀ j, 0 < j → j < h.length → par j = i → m < i → m ≤ par i → le (at_ h (par i)) (at_ h j)
theorem exM_swap (m : Nat) (h : List It) (i : Nat) (hm : m ≤ i) (hk : 2 * i + 1 < h.length) (hx : ExM m h i) (hc : ahB (at_ h (kid h i)) (at_ h i) = true) : ExM m (swapL h i (kid h i)) (kid h i) ∧ le (at_ (swapL h i (kid h i)) (par (kid h i))) (at_ (swapL h i (kid h i)) (kid h i)) := by
  have hg := kid_gt h i
  have hl := kid_lt h i hk
  have hp := kid_par h i
  have hil : i < h.length := by omega
  refine ⟨⟨?_, ?_⟩, ?_⟩
  · intro j hj0 hj hmj hjk hpk
    rw [swap_len] at hj
    rw [at_swap _ _ _ _ hil hl, at_swap _ _ _ _ hil hl, if_neg hjk, if_neg hpk]
    by_cases e1 : j = i
    · subst e1
      have := par_lt hj0
      rw [if_neg (by omega), if_pos rfl]
      exact hx.2 (kid h j) (by omega) hl hp (by omega) hmj
    · rw [if_neg e1]
      by_cases e2 : par j = i
      · rw [if_pos e2]; exact kid_le h i j hj0 hj e2
      · rw [if_neg e2]; exact hx.1 j hj0 hj hmj e1 e2
  · intro j hj0 hj hjk _ _
    rw [swap_len] at hj
    have := par_lt hj0
    rw [hp, at_swap _ _ _ _ hil hl, at_swap _ _ _ _ hil hl, if_neg (by omega), if_pos rfl, if_neg (by omega), if_neg (by omega)]
    exact hjk ▸ hx.1 j hj0 hj (by omega) (by omega) (by omega)
  · rw [hp, at_swap _ _ _ _ hil hl, at_swap _ _ _ _ hil hl, if_neg (by omega), if_pos rfl, if_pos rfl]
    exact le_of_ah hc
theorem heapM_of (m : Nat) (h : List It) (i : Nat) (hx : ExM m h i) (hi : i = m ∨ le (at_ h (par i)) (at_ h i)) (hk : ∀ j, 0 < j → j < h.length → par j = i → le (at_ h i) (at_ h j)) : HeapM m h := by
  intro j hj0 hj hmj
  by_cases e1 : j = i
  · subst e1
    rcases hi with h0 | h1
    · have := par_lt hj0; omega
    · exact h1
  · by_cases e2 : par j = i
    · rw [e2]; exact hk j hj0 hj e2
    · exact hx.1 j hj0 hj hmj e1 e2
theorem down_heapM (m : Nat) (n : Nat) : ∀ (h : List It) (i : Nat), m ≤ i → h.length ≤ n + i → ExM m h i → (i = m ∨ le (at_ h (par i)) (at_ h i)) → HeapM m (downL h i) := by
  induction n with
  | zero =>
    intro h i hm hi hx hp
    rw [down_end _ _ (by omega)]
    exact heapM_of m h i hx hp (fun j hj0 hj he => by unfold par at he; omega)
  | succ n ih =>
    intro h i hm hi hx hp
    by_cases hk : 2 * i + 1 < h.length
    · cases hc : ahB (at_ h (kid h i)) (at_ h i)
      · rw [down_stop _ _ hc]
        exact heapM_of m h i hx hp (fun j hj0 hj he => le_trans (le_of_not hc) (kid_le h i j hj0 hj he))
      · rw [down_go _ _ hk hc]
        have hs := exM_swap m h i hm hk hx hc
        exact ih _ _ (by have := kid_gt h i; omega) (by rw [swap_len]; have := kid_gt h i; omega) hs.1 (.inr hs.2)
    · rw [down_end _ _ hk]
      exact heapM_of m h i hx hp (fun j hj0 hj he => by unfold par at he; omega)
theorem heapM_step (m : Nat) (h : List It) (hh : HeapM (m + 1) h) : HeapM m (downL h m) :=
  down_heapM m h.length h m (Nat.le_refl _) (by omega) ⟨fun j hj0 hj hmj _ hp => hh j hj0 hj (by omega), fun j _ _ _ h1 _ => by omega⟩ (.inl rfl)
theorem heapM_half (h : List It) : HeapM (h.length / 2) h := fun j hj0 hj hm => by unfold par at hm; omega
theorem heapM_0 (h : List It) (hh : HeapM 0 h) : Heap h := fun j hj0 hj => hh j hj0 hj (by omega)
/-- All below k is put in order, from the highest down. -/
def fixL (h : List It) : Nat → List It
  | 0 => h
  | k + 1 => fixL (downL h k) k
theorem fix_heap (k : Nat) : ∀ h : List It, HeapM k h → Heap (fixL h k) := by
  induction k with
  | zero => intro h hh; exact heapM_0 h hh
  | succ k ih => intro h hh; exact ih _ (heapM_step k h hh)
theorem fix_perm (k : Nat) : ∀ h : List It, (fixL h k).Perm h := by
  induction k with
  | zero => intro h; exact List.Perm.refl _
  | succ k ih => intro h; exact (ih _).trans (down_perm h.length h k (by omega))
theorem fix_len (h : List It) (k : Nat) : (fixL h k).length = h.length := (fix_perm k h).length_eq
/-- Strictly ahead. -/
def lt (x y : It) : Prop := x.rank < y.rank ∨ (x.rank = y.rank ∧ x.turn < y.turn)
theorem lt_trans {x y z : It} (h : lt x y) (k : lt y z) : lt x z := by unfold lt at *; omega
theorem not_lt_le {x y : It} (h : lt x y) : ¬ le y x := by unfold lt le at *; omega
/-- A new item's place: behind all that are as urgent. -/
def insS : List It → It → List It
  | [], x => [x]
  | y :: s, x => if x.rank < y.rank then x :: y :: s else y :: insS s x
theorem ins_perm (s : List It) (x : It) : (insS s x).Perm (x :: s) := by
  induction s with
  | nil => exact List.Perm.refl _
  | cons y s ih =>
    unfold insS
    split
    · exact List.Perm.refl _
    · exact (List.Perm.cons y ih).trans (List.Perm.swap x y s)
theorem ins_len (s : List It) (x : It) : (insS s x).length = s.length + 1 := by rw [(ins_perm s x).length_eq]; rfl
theorem ins_ord (s : List It) (x : It) (hs : s.Pairwise lt) (ht : ∀ y ∈ s, y.turn < x.turn) : (insS s x).Pairwise lt := by
  induction s with
  | nil => simp [insS]
  | cons y s ih =>
    rw [List.pairwise_cons] at hs
    unfold insS
    split
    · rename_i h
      rw [List.pairwise_cons]
      refine ⟨fun z hz => ?_, List.pairwise_cons.2 hs⟩
      simp only [List.mem_cons] at hz
      rcases hz with rfl | hz
      · exact .inl h
      · exact lt_trans (.inl h) (hs.1 z hz)
    · rename_i h
      rw [List.pairwise_cons]
      refine ⟨fun z hz => ?_, ih hs.2 (fun z hz => ht z (by simp [hz]))⟩
      have hz' := (ins_perm s x).mem_iff.1 hz
      simp only [List.mem_cons] at hz'
      rcases hz' with rfl | hz'
      · have := ht y (by simp)
        unfold lt; omega
      · exact hs.1 z hz'
/-- The heap h and the list s hold the same. -/
structure Rp (h : List It) (T : Int) (s : List It) : Prop where
  perm : s.Perm h
  ord : s.Pairwise lt
  top : ∀ x ∈ s, x.turn ≤ T
  heap : Heap h
theorem Rp.len {h : List It} {T : Int} {s : List It} (r : Rp h T s) : s.length = h.length := r.perm.length_eq
theorem Rp.nil : Rp [] 0 [] := ⟨List.Perm.refl _, List.Pairwise.nil, by simp, heap_nil⟩
theorem Rp.mono {h : List It} {T U : Int} {s : List It} (r : Rp h T s) (hu : T ≤ U) : Rp h U s := ⟨r.perm, r.ord, fun x hx => Int.le_trans (r.top x hx) hu, r.heap⟩
theorem Rp.add {h : List It} {T : Int} {s : List It} (r : Rp h T s) (rank : Int) (v : Dv) : Rp (addL h ⟨rank, T + 1, v⟩) (T + 1) (insS s ⟨rank, T + 1, v⟩) := by
  refine ⟨(ins_perm _ _).trans ((List.Perm.cons _ r.perm).trans (add_perm h _).symm), ins_ord _ _ r.ord fun y hy => ?_, fun x hx => ?_, add_heap h _ r.heap⟩
  · have := r.top y hy; simp only; omega
  · have hx' := (ins_perm _ _).mem_iff.1 hx
    simp only [List.mem_cons] at hx'
    rcases hx' with rfl | hx'
    · exact Int.le_refl _
    · have := r.top x hx'; omega
/-- What comes last goes. -/
theorem Rp.drop {h : List It} {T : Int} {s : List It} (r : Rp h T s) (h0 : 0 < h.length) :
    ∃ hs : s ≠ [], at_ h (lastK h h.length) = s.getLast hs ∧ Rp (takeL h (lastK h h.length)) T s.dropLast := by
  have hs : s ≠ [] := fun e => by have := r.len; rw [e] at this; simp at this; omega
  have hk := lastK_lt' h h.length h0
  have hmax := lastK_le h h.length
  have hsp : s.dropLast ++ [s.getLast hs] = s := List.dropLast_concat_getLast hs
  have hord := r.ord
  rw [← hsp, List.pairwise_append] at hord
  have hin : at_ h (lastK h h.length) ∈ s := r.perm.mem_iff.2 (by rw [at_get _ _ hk]; exact List.getElem_mem _)
  have heq : at_ h (lastK h h.length) = s.getLast hs := by
    rw [← hsp] at hin
    simp only [List.mem_append, List.mem_singleton] at hin
    rcases hin with hin | hin
    · exfalso
      have h1 := hord.2.2 _ hin _ (List.mem_singleton.2 rfl)
      have h2 : s.getLast hs ∈ h := r.perm.mem_iff.1 (List.getLast_mem hs)
      obtain ⟨j, hj, he⟩ := List.getElem_of_mem h2
      have h3 := hmax j hj
      rw [at_get _ _ hj, he] at h3
      exact not_lt_le h1 h3
    · exact hin
  refine ⟨hs, heq, ?_, hord.1, fun x hx => r.top x (List.dropLast_subset s hx), take_heap h _ r.heap hk⟩
  have p1 := take_perm h (lastK h h.length) hk
  have p2 : (s.getLast hs :: s.dropLast).Perm s := by
    rw [← List.singleton_append]
    exact List.perm_append_comm.trans (by rw [hsp])
  rw [heq] at p1
  exact List.Perm.cons_inv (p2.trans (r.perm.trans p1.symm))
/-- The first one goes. -/
theorem Rp.pop {h : List It} {T : Int} {x : It} {s : List It} (r : Rp h T (x :: s)) : at_ h 0 = x ∧ Rp (takeL h 0) T s := by
  have hl := r.len
  simp only [List.length_cons] at hl
  have h0 : 0 < h.length := by omega
  have hord := r.ord
  rw [List.pairwise_cons] at hord
  have hin : at_ h 0 ∈ x :: s := r.perm.mem_iff.2 (by rw [at_get _ _ h0]; exact List.getElem_mem _)
  have heq : at_ h 0 = x := by
    simp only [List.mem_cons] at hin
    rcases hin with hin | hin
    · exact hin
    · exact absurd (heap_min h r.heap x (r.perm.mem_iff.1 (by simp))) (not_lt_le (hord.1 _ hin))
  refine ⟨heq, ?_, hord.2, fun y hy => r.top y (by simp [hy]), take_heap h 0 r.heap h0⟩
  have p1 := take_perm h 0 h0
  rw [heq] at p1
  exact List.Perm.cons_inv (r.perm.trans p1.symm)
theorem Rp.filter {h : List It} {T : Int} {s : List It} (r : Rp h T s) (p : It → Bool) : Rp (fixL (h.filter p) ((h.filter p).length / 2)) T (s.filter p) :=
  ⟨(r.perm.filter p).trans (fix_perm _ _).symm, r.ord.filter p, fun x hx => r.top x (List.mem_filter.1 hx).1, fix_heap _ _ (heapM_half _)⟩
/-- What the document sees of it. -/
def pr (x : It) : Int × Dv := (x.rank, x.v)
def insR : List (Int × Dv) → Int × Dv → List (Int × Dv)
  | [], x => [x]
  | y :: s, x => if x.1 < y.1 then x :: y :: s else y :: insR s x
theorem ins_map (s : List It) (x : It) : (insS s x).map pr = insR (s.map pr) (pr x) := by
  induction s with
  | nil => rfl
  | cons y s ih =>
    unfold insS
    simp only [List.map_cons, insR, pr]
    split
    · simp [pr]
    · simp only [List.map_cons, pr, ih]
end Go.Proofs.YtgdofgckjkmhjaaGreat.Qd
namespace Go.Proofs.YtgdofgckjkmhjaaGreat.Qd
open Go Go.RowKit
structure Hx (p : Prop) : Prop where
  out : p
theorem hx {p : Prop} (h : p) : Hx p := ⟨h⟩
abbrev dvl (x : Dv) : List Value := dgl x.d x.p x.c
def itc (x : It) : List Value := .int .i64 x.rank :: .int .i64 x.turn :: dvl x.v
theorem itc_len (x : It) : (itc x).length = 13 := rfl
theorem dvl_len (x : Dv) : (dvl x).length = 11 := rfl
theorem dvl_one (x : Dv) : ∀ u ∈ dvl x, u.oneCell' = true := by
  intro u hu
  simp only [dvl, dgl, List.mem_cons, List.not_mem_nil, or_false] at hu
  rcases hu with rfl | rfl | rfl | rfl | rfl | rfl | rfl | rfl | rfl | rfl | rfl <;> rfl
theorem itc_one (x : It) : ∀ u ∈ itc x, u.oneCell' = true := by
  intro u hu
  simp only [itc, List.mem_cons] at hu
  rcases hu with rfl | rfl | hu
  · rfl
  · rfl
  · exact dvl_one x.v u hu
def cel (h : List It) : List Value := h.flatMap itc
theorem cel_len (h : List It) : (cel h).length = 13 * h.length := by
  induction h with
  | nil => rfl
  | cons x h ih => simp only [cel, List.flatMap_cons, List.length_append, List.length_cons] at *; rw [itc_len]; omega
theorem cel_at (h : List It) : ∀ i, i < h.length → ∀ k, k < 13 → (cel h)[i * 13 + k]? = (itc (at_ h i))[k]? := by
  induction h with
  | nil => intro i hi; simp at hi
  | cons x h ih =>
    intro i hi k hk
    have e : cel (x :: h) = itc x ++ cel h := by simp [cel]
    rw [e]
    rcases Nat.eq_zero_or_pos i with rfl | h0
    · rw [List.getElem?_append_left (by rw [itc_len]; omega)]
      simp [at_]
    · obtain ⟨j, rfl⟩ : ∃ j, i = j + 1 := ⟨i - 1, by omega⟩
      rw [List.getElem?_append_right (by rw [itc_len]; omega)]
      have := ih j (by simpa using hi) k hk
      rw [itc_len, show (j + 1) * 13 + k - 13 = j * 13 + k by omega, this]
      simp [at_]
theorem cel_set (h : List It) (rest : List Value) (i : Nat) (x : It) (hi : i < h.length) : setAll (cel h ++ rest) (i * 13) (itc x) = cel (h.set i x) ++ rest := by
  apply List.ext_getElem?
  intro j
  have hl := cel_len h
  have hl2 := cel_len (h.set i x)
  rw [List.length_set] at hl2
  rw [setAll_get _ _ _ (by rw [itc_len, List.length_append]; omega), itc_len]
  by_cases hj : j < (cel h).length
  · rw [List.getElem?_append_left hj, List.getElem?_append_left (by omega)]
    have e := cel_at h (j / 13) (by omega) (j % 13) (by omega)
    have e2 := cel_at (h.set i x) (j / 13) (by simp; omega) (j % 13) (by omega)
    rw [show j / 13 * 13 + j % 13 = j by omega] at e e2
    rw [e, e2, at_set _ _ _ _ hi]
    by_cases h0 : i * 13 ≤ j ∧ j < i * 13 + 13
    · rw [if_pos h0, if_pos (by omega), show j - i * 13 = j % 13 by omega]
    · rw [if_neg h0, if_neg (by omega)]
  · rw [if_neg (by omega), List.getElem?_append_right (by omega), List.getElem?_append_right (by omega), hl, hl2]
/-- A queue that has a row of items. -/
structure Qm (w : World) (q g cap : Nat) (room turns : Int) (h : List It) (rest : List Value) : Prop where
  hq : Blk w q [.int .i64 room, .int .i64 turns, .slice (some ⟨g, 0, none⟩) h.length cap] 108
  hg : Blk w g (cel h ++ rest) 110
  hl : h.length ≤ cap
  hcap : cap ≤ maxLen
  hrest : (cel h ++ rest).length = cap * 13
  hne : q ≠ g
theorem Qm.at {w : World} {q g cap : Nat} {room turns : Int} {h : List It} {rest : List Value} (m : Qm w q g cap room turns h rest) (i : Nat) (hi : i < h.length) : w.rangeAt g (i * 13) (itc (at_ h i)) := by
  intro j v hv
  have hl := cel_len h
  have hj : j < 13 := by have := (List.getElem?_eq_some_iff.1 hv).1; rw [itc_len] at this; exact this
  refine m.hg.cell ?_
  rw [List.getElem?_append_left (by omega), cel_at h i hi j hj]
  exact hv
theorem Qm.there {w : World} {q g cap : Nat} {room turns : Int} {h : List It} {rest : List Value} (m : Qm w q g cap room turns h rest) (i : Nat) (hi : i < h.length) : w.there g (i * 13) 13 := by
  have hl := cel_len h
  exact m.hg.there (by rw [List.length_append]; omega)
theorem Qm.frame {w w' : World} {q g cap : Nat} {room turns : Int} {h : List It} {rest : List Value} (m : Qm w q g cap room turns h rest) {bs : List Nat} (hk : Kept bs w w') (h1 : q ∉ bs) (h2 : g ∉ bs) : Qm w' q g cap room turns h rest :=
  ⟨hk.blk m.hq h1, hk.blk m.hg h2, m.hl, m.hcap, m.hrest, m.hne⟩
theorem Qm.kept {w w' : World} {q g cap : Nat} {room turns : Int} {h : List It} {rest : List Value} (m : Qm w q g cap room turns h rest) (hk : Kept [] w w') : Qm w' q g cap room turns h rest := m.frame hk (by simp) (by simp)
theorem Qm.put {w : World} {q g cap : Nat} {room turns : Int} {h : List It} {rest : List Value} (m : Qm w q g cap room turns h rest) (i : Nat) (hi : i < h.length) (x : It) : Qm (w.setCells g (i * 13) (itc x)) q g cap room turns (h.set i x) rest := by
  have hg := m.hg.setCells (i * 13) (itc x)
  have hc := cel_set h rest i x hi
  rw [hc] at hg
  have hq := m.hq.setCells_ne m.hne (i * 13) (itc x)
  refine ⟨by rw [List.length_set]; exact hq, hg, by rw [List.length_set]; exact m.hl, m.hcap, ?_, m.hne⟩
  have := m.hrest
  simp only [List.length_append, cel_len, List.length_set] at *
  exact this
theorem size_setCells (g : Nat) : ∀ (vs : List Value) (o : Nat) (w : World), (w.setCells g o vs).heap.size = w.heap.size
  | [], _, _ => rfl
  | v :: r, o, w => by
    rw [World.setCells, size_setCells g r (o + 1)]
    simp [World.setCell]
theorem infoIt : (Tryz.prog.info? 110).map (·.size) = some 13 := by kernel_rfl
theorem infoDg : (Tryz.prog.info? 50).map (·.size) = some 11 := by kernel_rfl
section
variable {P : Program} {md : Region.Mode} {ops : Array Oper} {Q : Exit → Act → World → Prop} {S : World → Prop}
theorem take_by (i d : Nat) {oi : Oper} {v : Value} {fuel : Nat} {listed : Array Bool} {a : Act} {w : World} (hi : ops[i]? = some oi) (hd : oi.dst = some d)
    (hs : Region.noSelect ops = true) (hf : Region.free md ops listed i = true) (hr : (Region.ready md ops listed).contains i = true)
    (hQ : ∀ c a w, Q (.panic c) (a.put oi.dst v) w → Q (.panic c) a w) (hy : YieldsIf P ops S oi v a) (hS : S w)
    (h : wpAnyH P md ops Q S fuel (listed.setIfInBounds i true) { tmps := a.tmps.setIfInBounds d v, defers := a.defers } w) : wpAnyH P md ops Q S (fuel + 1) listed a w := by
  refine wpAnyH_take hi hs hf hr hQ hy hS ?_
  rw [hd]
  exact h
end
theorem step_of {P : Program} {ops : Array Oper} {o : Oper} {a : Act} {w : World} {K : Act → World → Prop} {Q : Exit → Act → World → Prop} {E : Prop} (hgd : o.guard = none) (h : o.wp P a w K Q) : if Region.wanted o (yielded ops a.tmps) = true then o.wp P a w K Q else E := by
  rw [if_pos (by simp [Region.wanted, hgd])]
  exact h
theorem wp_loadIt {w : World} {q g cap i : Nat} {room turns : Int} {h : List It} {rest : List Value} {ops : Array Oper} {o : Oper} {a : Act} {K : Act → World → Prop} {Q : Exit → Act → World → Prop} {E : Prop} (hgd : o.guard = none) (x : Operand) (ho : o.op = .load 110 x)
    (m : Qm w q g cap room turns h rest) (hi : i < h.length) (hx : a.eval x = .pointer (some ⟨g, i * 13, none⟩)) (hK : K (a.put o.dst (.agg (itc (at_ h i)).toArray)) w) : if Region.wanted o (yielded ops a.tmps) = true then o.wp Tryz.prog a w K Q else E :=
  step_of hgd (wp_load_mid 110 x ho g (i * 13) hx (itc (at_ h i)) _ (m.at i hi) Tryz.underlying110 rfl (by kernel_rfl) hK)
theorem wp_storeIt {w w0 : World} {q g cap i : Nat} {room turns : Int} {h : List It} {rest : List Value} {bs : List Nat} {ops : Array Oper} {o : Oper} {a : Act} {K : Act → World → Prop} {Q : Exit → Act → World → Prop} {E : Prop} (hgd : o.guard = none) (x y : Operand) (ho : o.op = .store 110 x y)
    (m : Qm w q g cap room turns h rest) (hi : i < h.length) (z : It) (hx : a.eval x = .pointer (some ⟨g, i * 13, none⟩)) (hy : a.eval y = .agg (itc z).toArray) (k : Kept bs w0 w) (hg : g ∈ bs ∨ w0.heap.size ≤ g)
    (hK : ∀ W', Qm W' q g cap room turns (h.set i z) rest → Kept bs w0 W' → W'.heap.size = w.heap.size → (∀ b T xs, b ≠ g → Blk w b xs T → Blk W' b xs T) → K (a.put o.dst undef) W') : if Region.wanted o (yielded ops a.tmps) = true then o.wp Tryz.prog a w K Q else E :=
  step_of hgd (wp_store_mid 110 x y ho g (i * 13) (itc z).toArray hx hy (m.there i hi) (by kernel_rfl) (all_oneCell_toArray (itc_one _)) (hK _ (m.put i hi z) (k.setCells hg _ _) (size_setCells _ _ _ _) (fun _ _ _ hne hb => hb.setCells_ne hne _ _)))
set_option maxRecDepth 100000 in
set_option maxHeartbeats 800000 in
theorem ahead_any (x y : It) (w : World) :
    Calls Tryz.prog 74 #[.agg (itc x).toArray, .agg (itc y).toArray] w fun e w' => e = .returned (.bool (ahB x y)) ∧ Kept [] w w' := by
  have b1 := (Blk.new w (itc x) 110).alloc (.cells (itc y).toArray 110)
  have b2 := Blk.new (w.alloc (.cells (itc x).toArray 110)) (itc y) 110
  rw [show (w.alloc (.cells (itc x).toArray 110)).heap.size = w.heap.size + 1 by simp] at b2
  have c0 := b1.cell (i := 0) (v := .int .i64 x.rank) rfl
  have c1 := b1.cell (i := 1) (v := .int .i64 x.turn) rfl
  have d0 := b2.cell (i := 0) (v := .int .i64 y.rank) rfl
  have d1 := b2.cell (i := 1) (v := .int .i64 y.turn) rfl
  clear b1 b2
  go_enter Tryz.func74, Tryz.ntmps74
  go_wp2
  all_goals
    try simp only [beq_iff_eq] at *
    try simp only [beq_eq_false_iff_ne] at *
    go_ret
    refine ⟨ret_bool ?_, ((Kept.refl _ _).alloc _).alloc _⟩
    unfold ahB
    first | exact (decide_eq_false (by omega)).symm | exact (decide_eq_true (by omega)).symm | exact decide_eq_decide.2 (by omega)
end Go.Proofs.YtgdofgckjkmhjaaGreat.Qd
