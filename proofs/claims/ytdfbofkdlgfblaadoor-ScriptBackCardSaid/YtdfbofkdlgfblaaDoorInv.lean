/- A region that draws its order, by what each operation leaves: no order is looked at by itself. -/
import Derived.Test.YtdfbofkdlgfblaaDoorMem
import Derived.RegionTactic
import Derived.BigRegion
namespace Go.Proofs.YtdfbofkdlgfblaaDoor
open Go Go.RowKit
section
variable {P : Program} {md : Region.Mode} {ops : Array Oper} {Q : Exit → Act → World → Prop}
theorem count_set : ∀ (l : List Bool) (i : Nat), l[i]? = some false → (l.set i true).count false + 1 = l.count false
  | [], i, h => by simp at h
  | b :: l, 0, h => by
    simp only [List.getElem?_cons_zero, Option.some.injEq] at h
    subst h
    simp
  | b :: l, i + 1, h => by
    simp only [List.getElem?_cons_succ] at h
    have := count_set l i h
    rw [List.set_cons_succ, List.count_cons, List.count_cons]
    omega
theorem listed_false {L : Array Bool} {i : Nat} (h : L.getD i true = false) : L.toList[i]? = some false := by
  have h2 : L[i]?.getD true = false := by simpa using h
  cases h3 : L[i]? with
  | none => rw [h3] at h2; simp at h2
  | some b =>
    rw [h3] at h2
    simp only [Option.getD_some] at h2
    subst h2
    simpa using h3
theorem wpAny_inv (I : Array Bool → Act → World → Prop)
    (hstep : ∀ L a w i, I L a w → i ∈ Region.ready md ops L → wpOp P ops Q i (I (L.setIfInBounds i true)) a w)
    (hend : ∀ L a w, I L a w → Region.ready md ops L = [] → Q .normal a w) :
    ∀ fuel (L : Array Bool) a w, I L a w → L.toList.count false ≤ fuel → wpAny P md ops Q fuel L a w := by
  intro fuel
  induction fuel with
  | zero =>
    intro L a w hi hc
    have hr : Region.ready md ops L = [] := by
      cases h : Region.ready md ops L with
      | nil => rfl
      | cons i r =>
        have hm : i ∈ Region.ready md ops L := by rw [h]; simp
        have h1 := count_set L.toList i (listed_false (mem_ready.1 hm).1)
        omega
    exact ⟨hr, hend L a w hi hr⟩
  | succ fuel ih =>
    intro L a w hi hc
    refine ⟨fun hr => hend L a w hi hr, fun i hm => ?_⟩
    refine wpOp_mono (fun a' w' h => ih _ a' w' h ?_) (hstep L a w i hi hm)
    have h1 := count_set L.toList i (listed_false (mem_ready.1 hm).1)
    rw [Array.toList_setIfInBounds]
    omega
/-- But for what the operations write, the state is as it was. -/
structure BaseA (ops : Array Oper) (a0 a : Act) : Prop where
  defers : a.defers = a0.defers
  size : a.tmps.size = a0.tmps.size
  slot : ∀ t, (∀ (i : Nat) (o : Oper), ops[i]? = some o → o.dst ≠ some t) → a.tmps.getD t undef = a0.tmps.getD t undef
theorem BaseA.refl (a : Act) : BaseA ops a a := ⟨rfl, rfl, fun _ _ => rfl⟩
theorem BaseA.put {a0 a : Act} (h : BaseA ops a0 a) {i : Nat} {o : Oper} (ho : ops[i]? = some o) (v : Value) : BaseA ops a0 (a.put o.dst v) := by
  cases hd : o.dst with
  | none => exact h
  | some d =>
    refine ⟨h.defers, by simp [Act.put]; exact h.size, fun t ht => ?_⟩
    have hne : d ≠ t := fun e => ht i o ho (by rw [hd, e])
    rw [← h.slot t ht]
    simp [Act.put, Array.getElem?_setIfInBounds_ne hne]
theorem put_same (a : Act) (d : Tmp) (v : Value) (h : d < a.tmps.size) : (a.put (some d) v).tmps.getD d undef = v := by simp [Act.put, h]
theorem put_other (a : Act) {d t : Tmp} (v : Value) (h : d ≠ t) : (a.put (some d) v).tmps.getD t undef = a.tmps.getD t undef := by simp [Act.put, Array.getElem?_setIfInBounds_ne h]
theorem rep_false (n j : Nat) : (Array.replicate n false).getD j false = false := by
  rw [Array.getD_eq_getD_getElem?, Array.getElem?_replicate]
  split <;> rfl
theorem at_mem {ops : Array Oper} {i : Nat} {o : Oper} (h : ops[i]? = some o) : i < ops.size ∧ o ∈ ops.toList := by
  obtain ⟨hi, rfl⟩ := Array.getElem?_eq_some_iff.1 h
  exact ⟨hi, by simp⟩
/-- The looks at a region's operations, for the kernel. -/
def freeB (ops : Array Oper) (t : Tmp) : Bool := ops.toList.all fun o => o.dst != some t
theorem free_of {ops : Array Oper} {t : Tmp} (h : freeB ops t = true) (i : Nat) (o : Oper) (ho : ops[i]? = some o) : o.dst ≠ some t := by
  have := List.all_eq_true.1 h o (at_mem ho).2
  simpa using this
def distB (ops : Array Oper) : Bool := (List.range ops.size).all fun i => (List.range ops.size).all fun j => i == j || (match ops[i]?, ops[j]? with | some a, some b => a.dst == none || a.dst != b.dst | _, _ => true)
theorem dist_of {ops : Array Oper} (h : distB ops = true) (i j : Nat) (oi oj : Oper) (t : Tmp) (hi : ops[i]? = some oi) (hj : ops[j]? = some oj) (h1 : oi.dst = some t) (h2 : oj.dst = some t) : i = j := by
  have h3 := List.all_eq_true.1 (List.all_eq_true.1 h i (List.mem_range.2 (at_mem hi).1)) j (List.mem_range.2 (at_mem hj).1)
  rw [hi, hj] at h3
  simpa [h1, h2] using h3
def sizeB (ops : Array Oper) (m : Nat) : Bool := ops.toList.all fun o => match o.dst with | some t => decide (t < m) | none => true
theorem size_of {ops : Array Oper} {m : Nat} (h : sizeB ops m = true) (i : Nat) (o : Oper) (t : Tmp) (ho : ops[i]? = some o) (ht : o.dst = some t) : t < m := by
  have h3 := List.all_eq_true.1 h o (at_mem ho).2
  rw [ht] at h3
  simpa using h3
def dagB (ops : Array Oper) : Bool := (List.range ops.size).all fun i => match ops[i]? with | some o => o.after.toList.all fun e => decide (e.on < i) && Region.binds .any e | none => true
theorem dag_of {ops : Array Oper} (h : dagB ops = true) (i : Nat) (o : Oper) (ho : ops[i]? = some o) (e : Edge) (he : e ∈ o.after) : e.on < i ∧ Region.binds .any e = true := by
  have h3 := List.all_eq_true.1 h i (List.mem_range.2 (at_mem ho).1)
  rw [ho] at h3
  have h4 := List.all_eq_true.1 h3 e (by simpa using he)
  simpa using h4
def lastB (ops : Array Oper) (n : Nat) : Bool := match ops[n]? with | some o => (List.range n).all fun i => o.after.toList.any fun e => e.on == i | none => true
theorem last_of {ops : Array Oper} {n : Nat} (h : lastB ops n = true) (o : Oper) (ho : ops[n]? = some o) (i : Nat) (hi : i < n) : ∃ e ∈ o.after, e.on = i := by
  unfold lastB at h
  rw [ho] at h
  have h4 := List.all_eq_true.1 h i (List.mem_range.2 hi)
  obtain ⟨e, he, h5⟩ := List.any_eq_true.1 h4
  exact ⟨e, by simpa using he, by simpa using h5⟩
/-- The law: F says what each operation leaves; the last one comes behind all others. -/
theorem region_inv {id : Nat} {a0 : Act} {w0 : World} (hm : P.follows .mixedOrders = true) (n : Nat) (hn : ops.size = n + 1)
    (F : Nat → Value → World → Prop) (hF : ∀ i v w w', F i v w → Kept [] w w' → F i v w')
    (hdst : ∀ (i j : Nat) (oi oj : Oper) t, ops[i]? = some oi → ops[j]? = some oj → oi.dst = some t → oj.dst = some t → i = j)
    (hsz : ∀ (i : Nat) (o : Oper) t, ops[i]? = some o → o.dst = some t → t < a0.tmps.size)
    (hdag : ∀ (i : Nat) (o : Oper), ops[i]? = some o → ∀ e ∈ o.after, e.on < i ∧ Region.binds .any e = true)
    (hall : ∀ o, ops[n]? = some o → ∀ i, i < n → ∃ e ∈ o.after, e.on = i)
    (step : ∀ (i : Nat) (o : Oper), i < n → ops[i]? = some o → ∀ a w, Kept [] w0.drew w → BaseA ops a0 a → (∀ e ∈ o.after, ∀ (oe : Oper) t, ops[e.on]? = some oe → oe.dst = some t → F e.on (a.tmps.getD t undef) w) →
      ∀ K : Act → World → Prop, (∀ v w', Kept [] w w' → F i v w' → K (a.put o.dst v) w') → wpOp P ops Q i K a w)
    (last : ∀ o, ops[n]? = some o → ∀ a w, Kept [] w0.drew w → BaseA ops a0 a → (∀ (j : Nat) (oj : Oper) t, j < n → ops[j]? = some oj → oj.dst = some t → F j (a.tmps.getD t undef) w) → wpOp P ops Q n (Q .normal) a w) :
    (Code.region id ops true).wp P Q a0 w0 := by
  refine wp_region_any hm ?_
  refine wpAny_inv (fun L a w => L.size = n + 1 ∧ ((L.getD n true = true ∧ (∀ i, i < n + 1 → L.getD i true = true) ∧ Q .normal a w) ∨ (L.getD n true = false ∧ Kept [] w0.drew w ∧ BaseA ops a0 a ∧ ∀ (j : Nat) (oj : Oper) t, ops[j]? = some oj → oj.dst = some t → L.getD j false = true → F j (a.tmps.getD t undef) w))) ?_ ?_ _ _ _ _ ⟨by simp [hn], .inr ⟨by simp [hn], Kept.refl _ _, BaseA.refl _, fun j oj t hj _ hl => by rw [rep_false] at hl; simp at hl⟩⟩ (by simp)
  · rintro L a w i ⟨hL, h⟩ hi
    obtain ⟨hif, o, ho, hdeps⟩ := mem_ready.1 hi
    have hin : i < n + 1 := by rw [← hn]; exact (Array.getElem?_eq_some_iff.1 ho).1
    rcases h with ⟨_, hal, _⟩ | ⟨hnf, hk, hb, hf⟩
    · rw [hal i hin] at hif; simp at hif
    · have hL2 : (L.setIfInBounds i true).size = n + 1 := by simp [hL]
      by_cases hie : i = n
      · subst hie
        have hlist : ∀ j, j < i → L.getD j false = true := fun j hj => by
          obtain ⟨e, he, rfl⟩ := hall o ho j hj
          exact hdeps e he (hdag i o ho e he).2
        refine wpOp_mono (fun a' w' hq => ⟨hL2, .inl ⟨?_, fun j hj => ?_, hq⟩⟩) (last o ho a w hk hb (fun j oj t hj hoj ht => hf j oj t hoj ht (hlist j hj)))
        · simp [hL]
        · by_cases hji : j = i
          · subst hji; simp [hL]
          · rw [getD_set_ne true (Ne.symm hji)]
            have := hlist j (by omega)
            have hjl : j < L.size := by omega
            simpa [hjl] using this
      · have hin2 : i < n := by omega
        refine step i o hin2 ho a w hk hb (fun e he oe t hoe ht => hf e.on oe t hoe ht (hdeps e he (hdag i o ho e he).2)) _ (fun v w' hkw hfv => ⟨hL2, .inr ⟨?_, hk.trans0 hkw, hb.put ho v, fun j oj t hoj ht hl => ?_⟩⟩)
        · rw [getD_set_ne true (by omega)]; exact hnf
        · by_cases hji : j = i
          · subst hji
            obtain rfl : oj = o := Option.some.inj (hoj.symm.trans ho)
            rw [ht, put_same a t v (by rw [hb.size]; exact hsz j oj t ho ht)]
            exact hfv
          · have hl2 : L.getD j false = true := by rwa [getD_set_ne false (Ne.symm hji)] at hl
            have h1 := hF j _ w w' (hf j oj t hoj ht hl2) hkw
            cases hd : o.dst with
            | none => exact h1
            | some d =>
              rw [put_other a v (fun e => hji (hdst j i oj o t hoj ho ht (by rw [hd, e])))]
              exact h1
  · rintro L a w ⟨hL, h⟩ hr
    rcases h with ⟨_, _, hq⟩ | ⟨hnf, _⟩
    · exact hq
    · exfalso
      have key : ∀ i, i < n + 1 → L.getD i true = true := by
        intro i
        induction i using Nat.strongRecOn with
        | ind i ih =>
          intro hi
          by_cases hl : L.getD i true = true
          · exact hl
          · exfalso
            have ho : ops[i]? = some (ops[i]'(by omega)) := Array.getElem?_eq_getElem (by omega)
            have hm : i ∈ Region.ready .any ops L := mem_ready.2 ⟨by simpa using hl, _, ho, fun e he hbnd => by
              have h1 := ih e.on (hdag i _ ho e he).1 (by have := (hdag i _ ho e he).1; omega)
              have h2 : e.on < L.size := by have := (hdag i _ ho e he).1; omega
              simpa [h2] using h1⟩
            rw [hr] at hm
            simp at hm
      rw [key n (by omega)] at hnf
      simp at hnf
end
end Go.Proofs.YtdfbofkdlgfblaaDoor
