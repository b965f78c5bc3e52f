/- nack: the plain law: the document's list of items, and the timer's order with the tries of each key. -/
import Derived.Test.YteobkcmfpmolmaaNkC
namespace Go.Proofs.Yteobkcmfpmolmaa
abbrev It : Type := Int × Int × Int
def itN (now : Int) (f : Int → Int) (x : En) : It := (x.key, x.due - now, f x.key)
def putN (x : It) : List It → List It
  | [] => [x]
  | y :: l => if x.2.1 < y.2.1 then x :: y :: l else y :: putN x l
def stopN (k : Int) (l : List It) : List It := l.filter (fun y => y.1 != k)
def agoN (x : It) : It := (x.1, x.2.1 - 1, x.2.2)
def toldN (l : List It) : List It := (l.map agoN).filter (fun y => decide (y.2.1 ≤ 0))
def restN (l : List It) : List It := (l.map agoN).filter (fun y => !decide (y.2.1 ≤ 0))
def againN (t : Int) (x : It) : It := (x.1, gapN t (min (x.2.2 + 1) 5), min (x.2.2 + 1) 5)
def putsN (t : Int) (l r : List It) : List It := l.foldl (fun r x => putN (againN t x) r) r
theorem put_map (now : Int) (f : Int → Int) (x : En) (s : List En) : putN (itN now f x) (s.map (itN now f)) = (insE x s).map (itN now f) := by
  induction s with
  | nil => rfl
  | cons y s ih =>
    simp only [List.map_cons, putN, insE]
    by_cases h : x.due < y.due
    · rw [if_pos h, if_pos (show (itN now f x).2.1 < (itN now f y).2.1 by simp only [itN]; omega)]; rfl
    · rw [if_neg h, if_neg (show ¬ (itN now f x).2.1 < (itN now f y).2.1 by simp only [itN]; omega), ih]; rfl
theorem it_congr (now : Int) {f g : Int → Int} {s : List En} (h : ∀ x, x ∈ s → f x.key = g x.key) : s.map (itN now f) = s.map (itN now g) :=
  List.map_congr_left (fun x hx => by simp only [itN, h x hx])
theorem stop_map (now k : Int) (f : Int → Int) (s : List En) : stopN k (s.map (itN now f)) = (s.filter (notKey k)).map (itN now f) := by
  unfold stopN
  rw [List.filter_map]
  rfl
theorem ago_map (now : Int) (f : Int → Int) (s : List En) : (s.map (itN now f)).map agoN = s.map (itN (now + 1) f) := by
  rw [List.map_map]
  refine List.map_congr_left (fun x _ => ?_)
  simp only [Function.comp, agoN, itN, Prod.mk.injEq, true_and, and_true]
  omega
theorem told_map {now : Int} {f : Int → Int} {s : List En} (hs : s.Pairwise ltE) : toldN (s.map (itN now f)) = (s.take (dueN (now + 1) s)).map (itN (now + 1) f) := by
  unfold toldN
  rw [ago_map, List.filter_map, (drop_due hs rfl).1]
  congr 1
  refine List.filter_congr (fun x _ => ?_)
  simp only [Function.comp, itN]
  exact decide_eq_decide.2 (by omega)
theorem rest_map {now : Int} {f : Int → Int} {s : List En} (hs : s.Pairwise ltE) : restN (s.map (itN now f)) = (s.drop (dueN (now + 1) s)).map (itN (now + 1) f) := by
  unfold restN
  rw [ago_map, List.filter_map, (drop_due hs rfl).2]
  congr 1
  refine List.filter_congr (fun x _ => ?_)
  simp only [Function.comp, itN]
  exact congrArg not (decide_eq_decide.2 (by omega))
/-- The order of the keys that run, while those that have come are started anew. -/
def stepS (t now : Int) (x : St) (k : Int) : St := (insE ⟨k, now + gapN t (tryN x.2.1 k), x.2.2 + 1⟩ x.1, fun j => if j = k then tryN x.2.1 k else x.2.1 j, x.2.2 + 1)
def sortN (t now : Int) (l : List Int) (x : St) : St := l.foldl (stepS t now) x
theorem sortN_f (t now : Int) (l : List Int) : ∀ (h s : List En) (f : Int → Int) (no : Int), (sortN t now l (s, f, no)).2 = (manyN t now l (h, f, no)).2 := by
  induction l with
  | nil => intro h s f no; rfl
  | cons k l ih => intro h s f no; exact ih _ _ _ _
theorem sort_tp (t now : Int) (l : List Int) : ∀ (h s : List En) (f : Int → Int) (no : Int), Tp h s now no → l.Nodup → (∀ k, k ∈ l → ∀ x, x ∈ h → x.key ≠ k) → now ≤ 2000000000 →
    Tp (manyN t now l (h, f, no)).1 (sortN t now l (s, f, no)).1 now (no + l.length) := by
  induction l with
  | nil => intro h s f no ht _ _ _; simpa [manyN, sortN] using ht
  | cons k l ih =>
    intro h s f no ht hn hk hnow
    rw [List.nodup_cons] at hn
    have hg := gapN_in t (tryN f k)
    have ht2 := ht.add (k := k) (d := now + gapN t (tryN f k)) (hk k List.mem_cons_self) (by omega) (by omega)
    have h2 := ih (h ++ [⟨k, now + gapN t (tryN f k), no + 1⟩]) (insE ⟨k, now + gapN t (tryN f k), no + 1⟩ s) (fun j => if j = k then tryN f k else f j) (no + 1) ht2 hn.2 (fun k' hk' x hx => by
      rcases List.mem_append.1 hx with hx | hx
      · exact hk k' (List.mem_cons_of_mem _ hk') x hx
      · simp only [List.mem_singleton] at hx
        subst hx
        intro e
        simp only at e
        subst e
        exact hn.1 hk') hnow
    have e : no + ((k :: l).length : Int) = no + 1 + (l.length : Int) := by simp; omega
    rw [e]
    exact h2
/-- What the document's tick puts back. -/
theorem puts_map (t now : Int) (f0 : Int → Int) (ts : List En) : ∀ (s : List En) (f : Int → Int) (no : Int), (ts.map (·.key)).Nodup → (∀ x, x ∈ ts → f x.key = f0 x.key) → (∀ x, x ∈ ts → ∀ y, y ∈ s → y.key ≠ x.key) →
    putsN t (ts.map (itN now f0)) (s.map (itN now f)) = (sortN t now (ts.map (·.key)) (s, f, no)).1.map (itN now (sortN t now (ts.map (·.key)) (s, f, no)).2.1) := by
  induction ts with
  | nil => intro s f no _ _ _; rfl
  | cons x ts ih =>
    intro s f no hn hf hk
    simp only [List.map_cons, List.nodup_cons] at hn
    have hx := hf x List.mem_cons_self
    have h1 := ih (insE ⟨x.key, now + gapN t (tryN f x.key), no + 1⟩ s) (fun j => if j = x.key then tryN f x.key else f j) (no + 1) hn.2
      (fun y hy => by
        have hne : y.key ≠ x.key := fun e => hn.1 (e ▸ List.mem_map_of_mem hy)
        simp only [if_neg hne]
        exact hf y (List.mem_cons_of_mem _ hy))
      (fun y hy z hz => by
        rcases List.mem_cons.1 ((ins_perm _ _).mem_iff.1 hz) with rfl | hz
        · simp only
          intro e
          exact hn.1 (e ▸ List.mem_map_of_mem hy)
        · exact hk y (List.mem_cons_of_mem _ hy) z hz)
    have e2 : s.map (itN now f) = s.map (itN now (fun j => if j = x.key then tryN f x.key else f j)) := it_congr now (fun y hy => by
      have hne := hk x List.mem_cons_self y hy
      simp only [if_neg hne])
    have e3 : againN t (itN now f0 x) = itN now (fun j => if j = x.key then tryN f x.key else f j) ⟨x.key, now + gapN t (tryN f x.key), no + 1⟩ := by
      simp only [againN, itN, ← hx, tryN, if_true, Prod.mk.injEq, true_and, and_true]
      omega
    have e4 : putsN t ((x :: ts).map (itN now f0)) (s.map (itN now f)) = putsN t (ts.map (itN now f0)) (putN (againN t (itN now f0 x)) (s.map (itN now f))) := rfl
    rw [e4, e2, e3, put_map]
    exact h1
theorem ins_filter {x : En} {s : List En} : (insE x s).length = s.length + 1 := by
  rw [(ins_perm x s).length_eq]; simp
/-- The keys stay, when those that have come are started anew. -/
theorem many_keys (t now : Int) (s : List En) (d : Nat) (f : Int → Int) (no : Int) : ((manyN t now ((s.take d).map (·.key)) (s.drop d, f, no)).1.map (·.key)).Perm (s.map (·.key)) := by
  rw [manyN_key]
  refine List.perm_append_comm.trans ?_
  rw [← List.map_append, List.take_append_drop]
/-- The whole tick, of both. -/
theorem tick_law {h s : List En} {f : Int → Int} {now no t : Int} (ht : Tp h s now no) (hn : now ≤ 1000000000) :
    let d := dueN (now + 1) s
    let l := (s.take d).map (·.key)
    Tp (manyN t (now + 1) l (s.drop d, f, no)).1 (sortN t (now + 1) l (s.drop d, f, no)).1 (now + 1) (manyN t (now + 1) l (s.drop d, f, no)).2.2 ∧
    putsN t (toldN (s.map (itN now f))) (restN (s.map (itN now f))) = (sortN t (now + 1) l (s.drop d, f, no)).1.map (itN (now + 1) (manyN t (now + 1) l (s.drop d, f, no)).2.1) ∧
    (toldN (s.map (itN now f))).map (·.1) = l := by
  intro d l
  have e1 : nowT now 1 = now + 1 := by unfold nowT; omega
  have ht2 := ht.tick 1
  rw [e1] at ht2
  have hkeys : (s.map (·.key)).Nodup := by
    rw [List.Nodup, List.pairwise_map]; exact ht.keys
  have esplit : s.map (·.key) = l ++ (s.drop d).map (·.key) := by
    show s.map (·.key) = (s.take d).map (·.key) ++ (s.drop d).map (·.key)
    rw [← List.map_append, List.take_append_drop]
  rw [esplit, List.nodup_append] at hkeys
  have hk : ∀ k, k ∈ l → ∀ x, x ∈ s.drop d → x.key ≠ k := fun k hk x hx e => hkeys.2.2 k hk x.key (List.mem_map_of_mem hx) e.symm
  refine ⟨?_, ?_, ?_⟩
  · have h1 := sort_tp t (now + 1) l (s.drop d) (s.drop d) f no ht2 hkeys.1 hk (by omega)
    rw [manyN_no]
    exact h1
  · rw [told_map ht.sorted, rest_map ht.sorted, puts_map t (now + 1) f (s.take d) (s.drop d) f no hkeys.1 (fun _ _ => rfl) (fun x hx y hy => hk x.key (List.mem_map_of_mem hx) y hy), sortN_f t (now + 1) l (s.drop d) (s.drop d) f no]
  · rw [told_map ht.sorted, List.map_map]
    rfl
end Go.Proofs.Yteobkcmfpmolmaa
