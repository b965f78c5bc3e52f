/- A region that draws its order, inside a round, at the wide fence: what only reads the world at hand may be taken first, as long as the call that waits for it has not come. -/
import Derived.Test.YteobkcmfpmolmaaQuietR
import Derived.Stop.RegionWithIn
namespace Go.Proofs.Yteobkcmfpmolmaa
open Go
section
variable {l0 n : Nat} {P : Program} {ops : Array Oper} {Q : Exit → Act → World → Prop} {md : Region.Mode} {W : World} {c : Nat}
abbrev FR (l0 : Nat) : Fence := Fence.wide.inRound l0
/-- In state a, in the world W, operation o leaves v in its temporary and does nothing else. -/
def YieldsW (P : Program) (ops : Array Oper) (W : World) (o : Oper) (v : Value) (a : Act) : Prop :=
  (Region.wanted o (yielded ops a.tmps) = true ∧ (execOp a.eval o).run P W = .ok (.value v) W) ∨ (Region.wanted o (yielded ops a.tmps) = false ∧ v = undef)
theorem YieldsW.op {i : Nat} {o : Oper} {v : Value} {a : Act} (hi : ops[i]? = some o) (hnd : noDefer o = true) (hy : YieldsW P ops W o v a) {K : Act → World → Prop} (h : K (a.put o.dst v) W) : wpOpIn (FR l0) n P ops Q i K a W := by
  unfold wpOpIn
  simp only [hi]
  rcases hy with ⟨hw, hv⟩ | ⟨hw, rfl⟩
  · simp only [hw, if_true]
    unfold Oper.wpIn
    refine ⟨fun _ _ => trivial, ?_⟩
    rw [Oper.semAt_eq _ _ _ (noDefer_ne hnd), hv]
    exact h
  · simp only [hw, Bool.false_eq_true, if_false]
    exact ⟨fun _ _ => trivial, h⟩
theorem YieldsW.of_same {o : Oper} {v : Value} {a a' : Act} (hy : YieldsW P ops W o v a) (he : execOp a'.eval o = execOp a.eval o) (hw : Region.wanted o (yielded ops a'.tmps) = Region.wanted o (yielded ops a.tmps)) : YieldsW P ops W o v a' := by
  unfold YieldsW at *
  rw [he, hw]
  exact hy
theorem wpOpIn_putW {j : Nat} {oi oj : Oper} {v : Value} (hj : ops[j]? = some oj) (hnd : noDefer oj = true) (hap : oi.apart ops oj = true)
    (hsi : ∀ cs b, oi.op ≠ .select cs b) (hsj : ∀ cs b, oj.op ≠ .select cs b)
    (hQ : ∀ c a w, Q (.panic c) (a.put oi.dst v) w → Q (.panic c) a w) {K : Act → World → Prop} {a : Act} {w : World}
    (hy : YieldsW P ops W oi v a) (h : wpOpIn (FR l0) n P ops Q j K (a.put oi.dst v) w) :
    wpOpIn (FR l0) n P ops Q j (fun a' w' => YieldsW P ops W oi v a' ∧ K (a'.put oi.dst v) w') a w := by
  obtain ⟨h1, h2, h3⟩ := Oper.apart_spec hap
  have keep : ∀ (a : Act), YieldsW P ops W oi v a → ∀ u, YieldsW P ops W oi v (a.put oj.dst u) := fun a hy u =>
    hy.of_same (execOp_put oi hsi a oj.dst u h3) (wanted_put oi a oj.dst u h3)
  have keepD : ∀ d, YieldsW P ops W oi v { a with defers := d :: a.defers } := fun d => hy.of_same rfl rfl
  unfold wpOpIn at *
  simp only [hj] at *
  rw [wanted_put oj a oi.dst v h1] at h
  split
  · rename_i hw
    simp only [hw, if_true] at h
    unfold Oper.wpIn at *
    refine ⟨fun _ _ => trivial, ?_⟩
    have h := h.2
    rw [Oper.semAt_eq _ _ _ (noDefer_ne hnd), execOp_put oj hsj a oi.dst v h1] at h
    rw [Oper.semAt_eq _ _ _ (noDefer_ne hnd)]
    generalize (execOp a.eval oj).run P w = r at *
    cases r with
    | ok x w' =>
      cases x <;> simp only [Oper.uponIn] at h ⊢
      case value u => exact ⟨keep a hy u, by rw [← Act.put_comm a v u h2]; exact h⟩
      case skip => exact ⟨keep a hy _, by rw [← Act.put_comm a v undef h2]; exact h⟩
      case defer d =>
        refine ⟨keep _ (keepD d) _, ?_⟩
        rw [← Act.put_comm _ v undef h2, ← Act.put_defers]
        exact h
      case enter f args =>
        refine ⟨h.1, CallsIn.mono h.2 fun e w'' he => ?_⟩
        cases e with
        | returned u => exact ⟨keep a hy u, by rw [← Act.put_comm a v u h2]; exact he⟩
        | panicked c => exact hQ _ _ _ he
        | outgrown => exact he
      case row row args => exact ⟨h.1, RowsIn.mono h.2 fun u w'' he => ⟨keep a hy u, by rw [← Act.put_comm a v u h2]; exact he⟩⟩
      case round l f tmps assign body =>
        refine ⟨h.1, RoundIn.mono h.2 fun e w'' he => ?_⟩
        cases e with
        | returned u => exact ⟨keep a hy u, by rw [← Act.put_comm a v u h2]; exact he⟩
        | panicked c => exact hQ _ _ _ he
        | outgrown => exact he
    | halt x w' =>
      cases x <;> simp only [Oper.uponIn] at h ⊢
      case panic u => exact hQ _ _ _ h
  · rename_i hw
    simp only [hw] at h
    exact ⟨fun _ _ => trivial, keep a hy _, by rw [← Act.put_comm a v undef h2]; exact h.2⟩
/-- Whatever order is picked from here on; the world is W as long as operation c has not come up. -/
def wpAnyR (l0 n : Nat) (P : Program) (md : Region.Mode) (ops : Array Oper) (Q : Exit → Act → World → Prop) (W : World) (c : Nat) : Nat → Array Bool → Act → World → Prop
  | 0, listed, a, w => Region.ready md ops listed = [] ∧ Q .normal a w
  | fuel + 1, listed, a, w =>
    (Region.ready md ops listed = [] → Q .normal a w) ∧
    ∀ i ∈ Region.ready md ops listed, wpOpIn (FR l0) n P ops Q i (fun a' w' => ((listed.setIfInBounds i true).getD c true = false → w' = W) ∧ wpAnyR l0 n P md ops Q W c fuel (listed.setIfInBounds i true) a' w') a w
theorem wpAnyIn_of_R : ∀ (fuel : Nat) (listed : Array Bool) (a : Act) (w : World), wpAnyR l0 n P md ops Q W c fuel listed a w → wpAnyIn (FR l0) n P md ops Q fuel listed a w
  | 0, _, _, _, h => h
  | fuel + 1, _, _, _, h => ⟨h.1, fun i hi => wpOpIn_mono (fun a' w' h' => wpAnyIn_of_R fuel _ a' w' h'.2) (h.2 i hi)⟩
/-- All that may come up ahead of operation i, and ahead of c, stays within M. -/
structure SafeM (md : Region.Mode) (ops : Array Oper) (M : Array Bool) (i c : Nat) : Prop where
  ready : Region.ready md ops M = [i]
  cf : M.getD c true = false
  ne : c ≠ i
def Sub (listed M : Array Bool) : Prop := listed.size = M.size ∧ ∀ k, listed.getD k false = true → M.getD k false = true
theorem SafeM.le {M listed : Array Bool} {i j : Nat} (h : SafeM md ops M i c) (hs : Sub listed M) (hj : j ∈ Region.ready md ops listed) (hji : j ≠ i) : M.getD j false = true := by
  obtain ⟨h0, oj, hoj, hall⟩ := mem_ready.1 hj
  have hlt : j < listed.size := by
    rcases Nat.lt_or_ge j listed.size with h' | h'
    · exact h'
    · simp [Array.getElem?_eq_none h'] at h0
  have hltM : j < M.size := by rw [← hs.1]; exact hlt
  cases hm : M.getD j false with
  | true => rfl
  | false =>
    have h1 : j ∈ Region.ready md ops M := mem_ready.2 ⟨by simp [hltM] at hm ⊢; exact hm, oj, hoj, fun e he hb => hs.2 _ (hall e he hb)⟩
    rw [h.ready] at h1
    exact absurd (by simpa using h1) hji
theorem SafeM.nc {M listed : Array Bool} {i j : Nat} (h : SafeM md ops M i c) (hs : Sub listed M) (hj : j ∈ Region.ready md ops listed) (hji : j ≠ i) : j ≠ c := by
  rintro rfl
  have h1 := h.le hs hj hji
  have h2 := h.cf
  rcases Nat.lt_or_ge j M.size with h' | h'
  · simp [h'] at h1 h2; rw [h1] at h2; cases h2
  · simp [Array.getElem?_eq_none h'] at h2
theorem Sub.set {M listed : Array Bool} {j : Nat} (hs : Sub listed M) (hm : M.getD j false = true) : Sub (listed.setIfInBounds j true) M := by
  refine ⟨by simp [hs.1], fun k hk => ?_⟩
  by_cases hjk : j = k
  · subst hjk; exact hm
  · exact hs.2 k (by rw [← hk]; simp [Array.getElem?_setIfInBounds_ne hjk])
theorem wpAnyR_first {i : Nat} {oi : Oper} {v : Value} {M : Array Bool} (hi : ops[i]? = some oi) (hnd : ∀ (j : Nat) (o : Oper), ops[j]? = some o → noDefer o = true) (hsel : ∀ (j : Nat) (o : Oper) cs b, ops[j]? = some o → o.op ≠ .select cs b)
    (hQ : ∀ c a w, Q (.panic c) (a.put oi.dst v) w → Q (.panic c) a w) (hM : SafeM md ops M i c) :
    ∀ (fuel : Nat) (listed : Array Bool) (a : Act),
      (∀ j oj, ops[j]? = some oj → j ≠ i → listed.getD j true = false → (∀ e ∈ oj.after, Region.binds md e = true → e.on ≠ i) → oi.apart ops oj = true) →
      i ∈ Region.ready md ops listed → Sub listed M → listed.getD c true = false → YieldsW P ops W oi v a →
      wpAnyR l0 n P md ops Q W c fuel (listed.setIfInBounds i true) (a.put oi.dst v) W → wpAnyR l0 n P md ops Q W c (fuel + 1) listed a W := by
  have hci := hM.ne
  intro fuel
  induction fuel with
  | zero =>
    intro listed a _ hr hsub hlc hy H
    refine ⟨fun h => (by rw [h] at hr; cases hr), fun j hj => ?_⟩
    by_cases hji : j = i
    · subst hji; exact hy.op hi (hnd _ _ hi) ⟨fun _ => rfl, H⟩
    · have := ready_mono hj hji
      rw [H.1] at this
      cases this
  | succ fuel ih =>
    intro listed a hfree hr hsub hlc hy H
    refine ⟨fun h => (by rw [h] at hr; cases hr), fun j hj => ?_⟩
    by_cases hji : j = i
    · subst hji; exact hy.op hi (hnd _ _ hi) ⟨fun _ => rfl, H⟩
    · have h1 := H.2 j (ready_mono hj hji)
      obtain ⟨hjun, oj, hoj, hall⟩ := mem_ready.1 hj
      have hnot : ∀ e ∈ oj.after, Region.binds md e = true → e.on ≠ i := fun e he hb heq => by
        have h1 := hall e he hb
        have h0 := (mem_ready.1 hr).1
        rw [heq] at h1
        rcases Nat.lt_or_ge i listed.size with h' | h'
        · simp [h'] at h0 h1; rw [h0] at h1; cases h1
        · simp [Array.getElem?_eq_none h'] at h1
      have h2 := wpOpIn_putW hoj (hnd _ _ hoj) (hfree j oj hoj hji hjun hnot) (fun cs b => hsel i oi cs b hi) (fun cs b => hsel j oj cs b hoj) hQ hy h1
      have hfree' : ∀ k ok, ops[k]? = some ok → k ≠ i → (listed.setIfInBounds j true).getD k true = false →
          (∀ e ∈ ok.after, Region.binds md e = true → e.on ≠ i) → oi.apart ops ok = true := fun k ok hk hki hun hno => by
        refine hfree k ok hk hki ?_ hno
        by_cases hjk : j = k
        · subst hjk; exact hjun
        · rw [getD_set_ne true hjk] at hun; exact hun
      have hjc : j ≠ c := hM.nc hsub hj hji
      have hlc' : (listed.setIfInBounds j true).getD c true = false := by rw [getD_set_ne true hjc]; exact hlc
      refine wpOpIn_mono (fun a' w' h3 => ?_) h2
      have hw : w' = W := h3.2.1 (by rw [getD_set_ne true hjc, getD_set_ne true (Ne.symm hci)]; exact hlc)
      subst hw
      refine ⟨fun _ => rfl, ih (listed.setIfInBounds j true) a' hfree' (ready_mono hr (Ne.symm hji)) (hsub.set (hM.le hsub hj hji)) hlc' h3.1 ?_⟩
      rw [Array.setIfInBounds_comm _ _ hji]
      exact h3.2.2
def sat (md : Region.Mode) (ops : Array Oper) (i : Nat) : Nat → Array Bool → Array Bool
  | 0, l => l
  | f + 1, l => sat md ops i f ((Region.ready md ops l).foldl (fun l j => if j == i then l else l.setIfInBounds j true) l)
def safeB (md : Region.Mode) (ops : Array Oper) (listed M : Array Bool) (i c : Nat) : Bool :=
  Region.ready md ops M == [i] && M.getD c true == false && c != i && listed.size == M.size && (List.range listed.size).all (fun k => !(listed.getD k false) || M.getD k false)
/-- Take operation i first: c can't come up ahead of it. -/
theorem wpAnyR_take {i : Nat} {oi : Oper} {v : Value} {fuel : Nat} {listed : Array Bool} {a : Act} (hi : ops[i]? = some oi) (hnd : ops.toList.all noDefer = true)
    (hs : Region.noSelect ops = true) (hf : Region.free md ops listed i = true) (hr : (Region.ready md ops listed).contains i = true) (hw : safeB md ops listed (sat md ops i ops.size listed) i c = true) (hl : listed.getD c true = false)
    (hQ : ∀ c a w, Q (.panic c) (a.put oi.dst v) w → Q (.panic c) a w) (hy : YieldsW P ops W oi v a)
    (h : wpAnyR l0 n P md ops Q W c fuel (listed.setIfInBounds i true) (a.put oi.dst v) W) : wpAnyR l0 n P md ops Q W c (fuel + 1) listed a W := by
  unfold safeB at hw
  simp only [Bool.and_eq_true, beq_iff_eq, bne_iff_ne, List.all_eq_true, List.mem_range, Bool.or_eq_true, Bool.not_eq_true'] at hw
  obtain ⟨⟨⟨⟨h1, h2⟩, h3⟩, h4⟩, h5⟩ := hw
  refine wpAnyR_first hi (fun j o ho => List.all_eq_true.1 hnd o (by simpa using Array.mem_of_getElem? ho)) (Region.noSelect_spec hs) hQ ⟨h1, h2, h3⟩ fuel listed a (Region.free_spec hi hf) (by simpa using hr) ⟨h4, fun k hk => ?_⟩ hl hy h
  rcases Nat.lt_or_ge k listed.size with h' | h'
  · rcases h5 k h' with h6 | h6
    · rw [hk] at h6; cases h6
    · exact h6
  · simp [Array.getElem?_eq_none h'] at hk
/-- The call comes; from there on any order. -/
theorem wpAnyR_call {fuel : Nat} {listed : Array Bool} {a : Act} {o : Oper} (hr : Region.ready md ops listed = [c]) (ho : ops[c]? = some o) (hw : Region.wanted o (yielded ops a.tmps) = true)
    (h : Oper.wpIn (FR l0) n P o a W (fun a' w' => wpAnyR l0 n P md ops Q W c fuel (listed.setIfInBounds c true) a' w') Q) (hc : (listed.setIfInBounds c true).getD c true = true) : wpAnyR l0 n P md ops Q W c (fuel + 1) listed a W := by
  refine ⟨fun h0 => (by rw [h0] at hr; cases hr), fun j hj => ?_⟩
  rw [hr] at hj
  obtain rfl : j = c := by simpa using hj
  unfold wpOpIn
  simp only [ho, hw, if_true]
  exact Oper.wpIn_mono (fun a' w' h' => ⟨fun h0 => (by rw [hc] at h0; cases h0), h'⟩) h
theorem wpAnyR_last {fuel i : Nat} {listed : Array Bool} {a : Act} {w : World} {o : Oper} {v : Value} (hr : Region.ready md ops listed = [i]) (ho : ops[i]? = some o) (hnd : noDefer o = true) (hc : (listed.setIfInBounds i true).getD c true = true) (hy : YieldsW P ops w o v a)
    (h : wpAnyR l0 n P md ops Q W c fuel (listed.setIfInBounds i true) (a.put o.dst v) w) : wpAnyR l0 n P md ops Q W c (fuel + 1) listed a w := by
  refine ⟨fun h0 => (by rw [h0] at hr; cases hr), fun j hj => ?_⟩
  rw [hr] at hj
  obtain rfl : j = i := by simpa using hj
  exact hy.op ho hnd ⟨fun h0 => (by rw [hc] at h0; cases h0), h⟩
theorem wpAnyR_done {fuel : Nat} {listed : Array Bool} {a : Act} {w : World} (hr : Region.ready md ops listed = []) (h : Q .normal a w) : wpAnyR l0 n P md ops Q W c fuel listed a w := by
  cases fuel with
  | zero => exact ⟨hr, h⟩
  | succ f => exact ⟨fun _ => h, fun i hi => by rw [hr] at hi; cases hi⟩
end
end Go.Proofs.Yteobkcmfpmolmaa
