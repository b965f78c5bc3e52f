/- A range over a function whose iterator makes cells of its own ahead of its first round; from then on it turns no cells, but those that it lays anew. -/
import Derived.Test.YtimplkdmhndalaaMem
import Derived.Test.YtimplkdmhndalaaProg
import Derived.RangeFuncNested
import Derived.RangeFuncBound
import Derived.RangeFuncCalls
import Derived.RangeFuncLeaves
import Derived.RangeFuncFrom
import Derived.Shelf.Abstract
import Derived.WalkKit
import Derived.OwnWalkIn
import Derived.TacticsInMore
import Derived.LoopNIn
import Derived.LoopIn
namespace Go.Proofs.Ytimplkdmhndalaa
open Go Go.RowKit Go.Shelf
/-- All that lay below B stays, and so do all cells. -/
structure KeptN (B : Nat) (A C : World) : Prop where
  os : C.os = A.os
  tape : C.tape = A.tape
  output : C.output = A.output
  size : A.heap.size ≤ C.heap.size
  block : ∀ k o, A.heap[k]? = some o → (k < B ∨ o.isCells = true) → C.heap[k]? = A.heap[k]?
theorem KeptN.of {B : Nat} {A C : World} (h : Kept [] A C) : KeptN B A C := ⟨h.os, h.tape, h.output, h.size, fun k o ho _ => h.block k (Array.getElem?_eq_some_iff.1 ho).1 (by simp)⟩
theorem KeptN.mono {B D : Nat} {A C : World} (h : KeptN B A C) (hd : D ≤ B) : KeptN D A C := ⟨h.os, h.tape, h.output, h.size, fun k o ho hc => h.block k o ho (by rcases hc with h1 | h1; exact .inl (by omega); exact .inr h1)⟩
theorem KeptN.blk {B : Nat} {A C : World} {b : Nat} {xs : List Value} {T : TypeId} (h : Blk A b xs T) (hk : KeptN B A C) : Blk C b xs T := by
  unfold Blk at *
  rw [hk.block b _ h (.inr rfl)]
  exact h
theorem keptN_put {B : Nat} (W : World) (l : Nat) (o o' : Obj) (hB : B ≤ l) (hl : W.heap[l]? = some o) (hc : o.isCells = false) : KeptN B W (W.putObj l o') :=
  ⟨rfl, rfl, rfl, by simp [World.putObj], fun k p hp hk => by
    have hne : k ≠ l := by
      rintro rfl
      rcases hk with h1 | h1
      · omega
      · rw [hl] at hp
        simp only [Option.some.injEq] at hp
        rw [hp, h1] at hc
        cases hc
    exact World.putObj_heap_other hne⟩
/-- J holds on, whatever stands beside it. -/
def AbN {β : Type} (B : Nat) (J : β → World → Prop) : Prop := ∀ s A C, J s A → KeptN B A C → J s C
/-- .. and at first, whatever is turned at B and beyond. -/
def AbY {α : Type} (B : Nat) (J : List α → World → Prop) : Prop := (∀ A C, J [] A → Below B A C → J [] C) ∧ AbN B J
def SeqY {α : Type} (F : Fence) (n : Nat) (P : Program) (g : Nat) (lb : Array Value) (encs : α → Array Value) (Kp : World → World → Prop) (S Sp : List α → Prop) (N : Nat) (w : World) : Prop :=
  ∀ (l : Nat) (J Jx : List α → World → Prop) (W : World), Below w.heap.size w W → AbY W.heap.size J → AbN W.heap.size Jx →
    (∀ pre x A, J pre A → pre.length < N → YieldAt F (n - 1) P l (encs x) A fun e C => (e = .returned (.bool true) ∧ J (pre ++ [x]) C ∧ Kp A C) ∨ (e = .returned (.bool false) ∧ Jx (pre ++ [x]) C)) →
    J [] W →
    CallsIn F n P g (#[.func (.yield l) #[] #[]] ++ lb) W fun e C => (∃ v, e = .returned v) ∧ ((∃ xs, S xs ∧ J xs C) ∨ (∃ pre, Sp pre ∧ Jx pre C))
theorem below_put {B : Nat} (W : World) (l : Nat) (o o' : Obj) (hB : B ≤ l) (hl : W.heap[l]? = some o) : Below B W (W.putObj l o') := by
  have hlt := (Array.getElem?_eq_some_iff.1 hl).1
  exact (Below.refl B W).grown (grownBy_putObj' W l o') (by omega) (fun k e => by cases e; exact hB)
variable {F : Fence} {n : Nat} {P : Program}
theorem rangeY {α : Type} {g : Operand} {ps : Array Tmp} {assign body : Code} {Q : Exit → Act → World → Prop} {a : Act} {w : World}
    (hro : F.round = none) (h1 : 1 ≤ n) {gf : Nat} {lb : Array Value} (hg : a.eval g = .func (.func gf) #[] lb) (hFg : F.fn gf) (eg : ∀ args w, (callFunc gf args).run P w = .ok (.enter gf args) w)
    {encs : α → Array Value} {Kp : World → World → Prop} {S Sp : List α → Prop} {N : Nat} (hseq : SeqY F (n - 1) P gf lb encs Kp S Sp N w)
    (hKt : ∀ {A B C : World}, Kp A B → Kp B C → Kp A C) (hKb : ∀ (W : World) (l : Nat) (o o' : Obj), w.heap.size ≤ l → W.heap[l]? = some o → o.isCells = false → Kp W (W.putObj l o')) (hps : ∀ x, (encs x).size = ps.size)
    (I : List α → World → Prop) (Ix : Code → List α → World → Prop) (hI : AbY w.heap.size I) (hIx : ∀ c, AbN w.heap.size (Ix c)) (h0 : I [] w) (a₁ : α → Act)
    (hassign : ∀ (l : Nat) (x : α) (W : World) (K : Act → World → Prop), K (a₁ x) W →
      assign.wpIn (F.inRound l) (n - 1 - 1) P (Exit.then K (fun _ _ _ => False)) { tmps := (ps.zip (encs x)).foldl (fun t (p, v) => t.setIfInBounds p v) a.tmps, defers := [] } W)
    (hbody : ∀ (l : Nat) (pre : List α) (x : α) (W : World), I pre W → pre.length < N → body.wpIn (F.inRound l) (n - 1 - 1) P (ownPostK Kp I Ix (pre ++ [x]) W) (a₁ x) W)
    (hdone : ∀ (D : Nat) (xs : List α) (W : World), w.heap.size ≤ D → S xs → I xs W → W.heap[D]? = some (.deferred (some [])) → Q .normal { a with defers := { target := .collected D, args := #[] } :: a.defers } W)
    (hstop : ∀ (D : Nat) (c : Code) (pre : List α) (W : World), w.heap.size ≤ D → Sp pre → Ix c pre W → W.heap[D]? = some (.deferred (some [])) → c.wpIn F n P Q { a with defers := { target := .collected D, args := #[] } :: a.defers } W) :
    (Code.rangeFunc g ps assign body).wpIn F n P Q a w := by
  refine wpIn_rangeFunc fun fn hfn => ?_
  rw [hro]
  -- the loop's record, and the two blocks that the loop lays
  obtain ⟨rec, hrec⟩ : ∃ rec : LoopState → Option Code → Loop, rec = fun st pe => { state := st, pending := pe, fn, tmps := a.tmps, params := ps, assign, body, defers := w.heap.size } := ⟨_, rfl⟩
  obtain ⟨V, hV⟩ : ∃ V, (w.alloc (.deferred (some []))).alloc (.loop (rec .ready none)) = V := ⟨_, rfl⟩
  have hsV : V.heap.size = w.heap.size + 2 := by rw [← hV]; simp
  have vl : V.heap[w.heap.size + 1]? = some (.loop (rec .ready none)) := by
    have h := World.alloc_heap_new (w.alloc (.deferred (some []))) (.loop (rec .ready none))
    rw [World.size_alloc, hV] at h
    exact h
  have vd : V.heap[w.heap.size]? = some (.deferred (some [])) := by
    rw [← hV, Below.heap_alloc _ _ _ (by simp)]
    exact World.alloc_heap_new w _
  have bV : Below w.heap.size w V := by
    rw [← hV]
    exact ((Below.refl _ w).alloc (Nat.le_refl _) _).alloc (by simp) _
  have kV : Kept [] w V := by
    rw [← hV]
    exact ((Kept.refl [] w).alloc _).alloc _
  have put1 : ∀ {J : List α → World → Prop} {s : List α} {W : World} {o o' : Obj}, AbN w.heap.size J → J s W → W.heap[w.heap.size + 1]? = some o → o.isCells = false → J s (W.putObj (w.heap.size + 1) o') :=
    fun hJ hs hl hc => hJ _ _ _ hs (keptN_put _ _ _ _ (by omega) hl hc)
  have other : ∀ {W : World} {o' : Obj}, W.heap[w.heap.size]? = some (.deferred (some [])) → (W.putObj (w.heap.size + 1) o').heap[w.heap.size]? = some (.deferred (some [])) :=
    fun h => (World.putObj_heap_other (by omega)).trans h
  refine ⟨w.heap.size + 1, [{ target := .collected w.heap.size, args := #[] }], V, { target := .fn (.func gf) lb, args := #[.func (.yield (w.heap.size + 1)) #[] #[]] }, V, gf,
    #[.func (.yield (w.heap.size + 1)) #[] #[]] ++ lb, V, ?_, ?_, ?_, ?_, fun _ => h1, ?_⟩
  · rw [← hV, hrec]; exact run_enterLoop_outer _ _ _ _ _
  · simp only [resolve, hg]
    simp [go_sem]
  · intro f' hf'
    simp [Target.leads] at hf'
    rw [← hf']
    exact hFg
  · simp [invoke, go_sem, eg]
  · refine (hseq (w.heap.size + 1)
      (fun pre W => I pre W ∧ W.heap[w.heap.size + 1]? = some (.loop (rec .ready none)) ∧ W.heap[w.heap.size]? = some (.deferred (some [])))
      (fun pre W => ∃ c, Ix c pre W ∧ W.heap[w.heap.size + 1]? = some (.loop (rec .done (some c))) ∧ W.heap[w.heap.size]? = some (.deferred (some [])))
      V bV
      ⟨fun A C hs hb => ⟨hI.1 A C hs.1 (hb.mono (by omega)), (hb.block _ (by omega)).trans hs.2.1, (hb.block _ (by omega)).trans hs.2.2⟩,
        fun s A C hs hb => ⟨hI.2 s A C hs.1 (hb.mono (by omega)), (hb.block _ _ hs.2.1 (.inl (by omega))).trans hs.2.1, (hb.block _ _ hs.2.2 (.inl (by omega))).trans hs.2.2⟩⟩
      (fun s A C ⟨c, hc, hl, hk⟩ hb => ⟨c, hIx c s A C hc (hb.mono (by omega)), (hb.block _ _ hl (.inl (by omega))).trans hl, (hb.block _ _ hk (.inl (by omega))).trans hk⟩)
      ?_ ⟨hI.2 _ _ _ h0 (KeptN.of kV), vl, vd⟩).mono ?_
    · rintro pre x W ⟨hi, hl, hk⟩ hlen
      have hy := run_yield (P := P) (args := encs x) hl (by rw [hrec]; exact hps x)
      rw [hrec] at hy
      refine ⟨fn, _, assign, body, hy, roundIn_of_wpIn hfn (hassign _ x W _ ⟨_, run_beginRound hl (by rw [hrec]), ?_⟩)⟩
      obtain ⟨W2, hW2⟩ : ∃ W2, W.putObj (w.heap.size + 1) (.loop { rec .ready none with state := .busy }) = W2 := ⟨_, rfl⟩
      have l2 : W2.heap[w.heap.size + 1]? = some (.loop { rec .ready none with state := .busy }) := by rw [← hW2]; exact World.putObj_heap_same (Array.getElem?_eq_some_iff.1 hl).1
      have k2 : W2.heap[w.heap.size]? = some (.deferred (some [])) := by rw [← hW2]; exact other hk
      have i2 : I pre W2 := by rw [← hW2]; exact put1 hI.2 hi hl rfl
      have p2 : Kp W W2 := by rw [← hW2]; exact hKb _ _ _ _ (by omega) hl rfl
      rw [hW2]
      refine wpIn_mono (hbody _ pre x _ i2 hlen) ?_
      have fin : ∀ (jump : Option Code) (C : World), KeepsOthers W2 C →
          (Instr.endRound (w.heap.size + 1) jump).run P C = .ok (.bool jump.isNone) (C.putObj (w.heap.size + 1) (.loop (rec (if jump.isNone then .ready else .done) jump))) ∧
          C.heap[w.heap.size + 1]? = some (.loop { rec .ready none with state := .busy }) ∧
          (C.putObj (w.heap.size + 1) (.loop (rec (if jump.isNone then .ready else .done) jump))).heap[w.heap.size + 1]? = some (.loop (rec (if jump.isNone then .ready else .done) jump)) ∧
          (C.putObj (w.heap.size + 1) (.loop (rec (if jump.isNone then .ready else .done) jump))).heap[w.heap.size]? = some (.deferred (some [])) := fun jump C hC => by
        have l3 := hC.same _ _ l2 rfl
        have hr := run_endRound (P := P) jump l3
        rw [hrec] at hr ⊢
        rw [hrec] at l3
        exact ⟨hr, l3, World.putObj_heap_same (Array.getElem?_eq_some_iff.1 l3).1, other (hC.same _ _ k2 rfl)⟩
      have leave : ∀ (c : Code) (C : World), KeepsOthers W2 C → Ix c (pre ++ [x]) C → ∃ v C', (Instr.endRound (w.heap.size + 1) (some c)).run P C = .ok v C' ∧ (v = .bool false ∧ Ix c (pre ++ [x]) C' ∧ C'.heap[w.heap.size + 1]? = some (.loop (rec .done (some c))) ∧ C'.heap[w.heap.size]? = some (.deferred (some []))) := fun c C hC hx => by
        obtain ⟨hr, l3, l4, k4⟩ := fin (some c) C hC
        exact ⟨_, _, hr, rfl, put1 (hIx c) hx l3 rfl, l4, k4⟩
      rintro e a3 C hp
      cases e with
      | normal =>
        obtain ⟨hC, hkp, hi3⟩ := hp
        obtain ⟨hr, l3, l4, k4⟩ := fin none C hC
        exact ⟨_, _, hr, .inl ⟨rfl, ⟨put1 hI.2 hi3 l3 rfl, l4, k4⟩, hKt (hKt p2 hkp) (hKb _ _ _ _ (by omega) l3 rfl)⟩⟩
      | ret =>
        obtain ⟨hr, l3, l4, k4⟩ := fin (some .ret) C hp.1
        exact ⟨_, _, hr, .inr ⟨rfl, .ret, put1 (hIx _) hp.2 l3 rfl, l4, k4⟩⟩
      | exit id =>
        obtain ⟨hr, l3, l4, k4⟩ := fin (some (.exit id)) C hp.1
        exact ⟨_, _, hr, .inr ⟨rfl, .exit id, put1 (hIx _) hp.2 l3 rfl, l4, k4⟩⟩
      | goto t =>
        obtain ⟨hr, l3, l4, k4⟩ := fin (some (.goto t)) C hp.1
        exact ⟨_, _, hr, .inr ⟨rfl, .goto t, put1 (hIx _) hp.2 l3 rfl, l4, k4⟩⟩
      | panic ch => exact hp.elim
      | outgrown => exact hp.elim
    · rintro e C ⟨⟨v, rfl⟩, (⟨xs, hS, hi, hl, hk⟩ | ⟨pre, hSp, c, hi, hl, hk⟩)⟩
      · exact ⟨none, _, by have h := run_endLoop (P := P) hl (by rw [hrec]; simp); rw [hrec] at h; exact h, hdone _ xs _ (Nat.le_refl _) hS (put1 hI.2 hi hl rfl) (other hk)⟩
      · exact ⟨some c, _, by have h := run_endLoop (P := P) hl (by rw [hrec]; simp); rw [hrec] at h; exact h, hstop _ c pre _ (Nat.le_refl _) hSp (put1 (hIx c) hi hl rfl) (other hk)⟩
/-- .. where the loop's variable lies in a box of its own. -/
theorem rangeYH {α : Type} {g : Operand} {ps : Array Tmp} {assign body : Code} {Q : Exit → Act → World → Prop} {a : Act} {w : World}
    (hro : F.round = none) (h1 : 1 ≤ n) {gf : Nat} {lb : Array Value} (hg : a.eval g = .func (.func gf) #[] lb) (hFg : F.fn gf) (eg : ∀ args w, (callFunc gf args).run P w = .ok (.enter gf args) w)
    {encs : α → Array Value} {Kp : World → World → Prop} {S Sp : List α → Prop} {N : Nat} (hseq : SeqY F (n - 1) P gf lb encs Kp S Sp N w)
    (hKt : ∀ {A B C : World}, Kp A B → Kp B C → Kp A C) (hKb : ∀ (W : World) (l : Nat) (o o' : Obj), w.heap.size ≤ l → W.heap[l]? = some o → o.isCells = false → Kp W (W.putObj l o')) (hps : ∀ x, (encs x).size = ps.size)
    (I : List α → World → Prop) (Ix : Code → List α → World → Prop) (hI : AbY w.heap.size I) (hIx : ∀ c, AbN w.heap.size (Ix c)) (h0 : I [] w) (hKk : ∀ {A C : World}, Kept [] A C → Kp A C) (Ax : α → Act → World → Prop) (hAx : ∀ x a' A C, Ax x a' A → KeptN w.heap.size A C → Ax x a' C)
    (hassign : ∀ (l : Nat) (pre : List α) (x : α) (W : World) (K : Act → World → Prop), I pre W → pre.length < N → (∀ a' W', Kept [] W W' → Ax x a' W' → K a' W') →
      assign.wpIn (F.inRound l) (n - 1 - 1) P (Exit.then K (fun _ _ _ => False)) { tmps := (ps.zip (encs x)).foldl (fun t (p, v) => t.setIfInBounds p v) a.tmps, defers := [] } W)
    (hbody : ∀ (l : Nat) (pre : List α) (x : α) (a' : Act) (W : World), I pre W → Ax x a' W → pre.length < N → body.wpIn (F.inRound l) (n - 1 - 1) P (ownPostK Kp I Ix (pre ++ [x]) W) a' W)
    (hdone : ∀ (D : Nat) (xs : List α) (W : World), w.heap.size ≤ D → S xs → I xs W → W.heap[D]? = some (.deferred (some [])) → Q .normal { a with defers := { target := .collected D, args := #[] } :: a.defers } W)
    (hstop : ∀ (D : Nat) (c : Code) (pre : List α) (W : World), w.heap.size ≤ D → Sp pre → Ix c pre W → W.heap[D]? = some (.deferred (some [])) → c.wpIn F n P Q { a with defers := { target := .collected D, args := #[] } :: a.defers } W) :
    (Code.rangeFunc g ps assign body).wpIn F n P Q a w := by
  refine wpIn_rangeFunc fun fn hfn => ?_
  rw [hro]
  -- the loop's record, and the two blocks that the loop lays
  obtain ⟨rec, hrec⟩ : ∃ rec : LoopState → Option Code → Loop, rec = fun st pe => { state := st, pending := pe, fn, tmps := a.tmps, params := ps, assign, body, defers := w.heap.size } := ⟨_, rfl⟩
  obtain ⟨V, hV⟩ : ∃ V, (w.alloc (.deferred (some []))).alloc (.loop (rec .ready none)) = V := ⟨_, rfl⟩
  have hsV : V.heap.size = w.heap.size + 2 := by rw [← hV]; simp
  have vl : V.heap[w.heap.size + 1]? = some (.loop (rec .ready none)) := by
    have h := World.alloc_heap_new (w.alloc (.deferred (some []))) (.loop (rec .ready none))
    rw [World.size_alloc, hV] at h
    exact h
  have vd : V.heap[w.heap.size]? = some (.deferred (some [])) := by
    rw [← hV, Below.heap_alloc _ _ _ (by simp)]
    exact World.alloc_heap_new w _
  have bV : Below w.heap.size w V := by
    rw [← hV]
    exact ((Below.refl _ w).alloc (Nat.le_refl _) _).alloc (by simp) _
  have kV : Kept [] w V := by
    rw [← hV]
    exact ((Kept.refl [] w).alloc _).alloc _
  have put1 : ∀ {J : List α → World → Prop} {s : List α} {W : World} {o o' : Obj}, AbN w.heap.size J → J s W → W.heap[w.heap.size + 1]? = some o → o.isCells = false → J s (W.putObj (w.heap.size + 1) o') :=
    fun hJ hs hl hc => hJ _ _ _ hs (keptN_put _ _ _ _ (by omega) hl hc)
  have other : ∀ {W : World} {o' : Obj}, W.heap[w.heap.size]? = some (.deferred (some [])) → (W.putObj (w.heap.size + 1) o').heap[w.heap.size]? = some (.deferred (some [])) :=
    fun h => (World.putObj_heap_other (by omega)).trans h
  refine ⟨w.heap.size + 1, [{ target := .collected w.heap.size, args := #[] }], V, { target := .fn (.func gf) lb, args := #[.func (.yield (w.heap.size + 1)) #[] #[]] }, V, gf,
    #[.func (.yield (w.heap.size + 1)) #[] #[]] ++ lb, V, ?_, ?_, ?_, ?_, fun _ => h1, ?_⟩
  · rw [← hV, hrec]; exact run_enterLoop_outer _ _ _ _ _
  · simp only [resolve, hg]
    simp [go_sem]
  · intro f' hf'
    simp [Target.leads] at hf'
    rw [← hf']
    exact hFg
  · simp [invoke, go_sem, eg]
  · refine (hseq (w.heap.size + 1)
      (fun pre W => I pre W ∧ W.heap[w.heap.size + 1]? = some (.loop (rec .ready none)) ∧ W.heap[w.heap.size]? = some (.deferred (some [])))
      (fun pre W => ∃ c, Ix c pre W ∧ W.heap[w.heap.size + 1]? = some (.loop (rec .done (some c))) ∧ W.heap[w.heap.size]? = some (.deferred (some [])))
      V bV
      ⟨fun A C hs hb => ⟨hI.1 A C hs.1 (hb.mono (by omega)), (hb.block _ (by omega)).trans hs.2.1, (hb.block _ (by omega)).trans hs.2.2⟩,
        fun s A C hs hb => ⟨hI.2 s A C hs.1 (hb.mono (by omega)), (hb.block _ _ hs.2.1 (.inl (by omega))).trans hs.2.1, (hb.block _ _ hs.2.2 (.inl (by omega))).trans hs.2.2⟩⟩
      (fun s A C ⟨c, hc, hl, hk⟩ hb => ⟨c, hIx c s A C hc (hb.mono (by omega)), (hb.block _ _ hl (.inl (by omega))).trans hl, (hb.block _ _ hk (.inl (by omega))).trans hk⟩)
      ?_ ⟨hI.2 _ _ _ h0 (KeptN.of kV), vl, vd⟩).mono ?_
    · rintro pre x W0 ⟨hi0, hl0, hk0⟩ hlen
      have hy := run_yield (P := P) (args := encs x) hl0 (by rw [hrec]; exact hps x)
      rw [hrec] at hy
      refine ⟨fn, _, assign, body, hy, roundIn_of_wpIn hfn (hassign _ pre x W0 _ hi0 hlen (fun a' W hkw hax => ?_))⟩
      have hl := (hkw.block _ (Array.getElem?_eq_some_iff.1 hl0).1 (by simp)).trans hl0
      have hk := (hkw.block _ (Array.getElem?_eq_some_iff.1 hk0).1 (by simp)).trans hk0
      have hi := hI.2 _ _ _ hi0 (KeptN.of hkw)
      refine ⟨_, run_beginRound hl (by rw [hrec]), ?_⟩
      obtain ⟨W2, hW2⟩ : ∃ W2, W.putObj (w.heap.size + 1) (.loop { rec .ready none with state := .busy }) = W2 := ⟨_, rfl⟩
      have l2 : W2.heap[w.heap.size + 1]? = some (.loop { rec .ready none with state := .busy }) := by rw [← hW2]; exact World.putObj_heap_same (Array.getElem?_eq_some_iff.1 hl).1
      have k2 : W2.heap[w.heap.size]? = some (.deferred (some [])) := by rw [← hW2]; exact other hk
      have i2 : I pre W2 := by rw [← hW2]; exact put1 hI.2 hi hl rfl
      have p2 : Kp W0 W2 := by rw [← hW2]; exact hKt (hKk hkw) (hKb _ _ _ _ (by have := hkw.size; omega) hl rfl)
      have ax2 : Ax x a' W2 := by rw [← hW2]; exact hAx _ _ _ _ hax (keptN_put _ _ _ _ (by omega) hl rfl)
      rw [hW2]
      refine wpIn_mono (hbody _ pre x _ _ i2 ax2 hlen) ?_
      have fin : ∀ (jump : Option Code) (C : World), KeepsOthers W2 C →
          (Instr.endRound (w.heap.size + 1) jump).run P C = .ok (.bool jump.isNone) (C.putObj (w.heap.size + 1) (.loop (rec (if jump.isNone then .ready else .done) jump))) ∧
          C.heap[w.heap.size + 1]? = some (.loop { rec .ready none with state := .busy }) ∧
          (C.putObj (w.heap.size + 1) (.loop (rec (if jump.isNone then .ready else .done) jump))).heap[w.heap.size + 1]? = some (.loop (rec (if jump.isNone then .ready else .done) jump)) ∧
          (C.putObj (w.heap.size + 1) (.loop (rec (if jump.isNone then .ready else .done) jump))).heap[w.heap.size]? = some (.deferred (some [])) := fun jump C hC => by
        have l3 := hC.same _ _ l2 rfl
        have hr := run_endRound (P := P) jump l3
        rw [hrec] at hr ⊢
        rw [hrec] at l3
        exact ⟨hr, l3, World.putObj_heap_same (Array.getElem?_eq_some_iff.1 l3).1, other (hC.same _ _ k2 rfl)⟩
      have leave : ∀ (c : Code) (C : World), KeepsOthers W2 C → Ix c (pre ++ [x]) C → ∃ v C', (Instr.endRound (w.heap.size + 1) (some c)).run P C = .ok v C' ∧ (v = .bool false ∧ Ix c (pre ++ [x]) C' ∧ C'.heap[w.heap.size + 1]? = some (.loop (rec .done (some c))) ∧ C'.heap[w.heap.size]? = some (.deferred (some []))) := fun c C hC hx => by
        obtain ⟨hr, l3, l4, k4⟩ := fin (some c) C hC
        exact ⟨_, _, hr, rfl, put1 (hIx c) hx l3 rfl, l4, k4⟩
      rintro e a3 C hp
      cases e with
      | normal =>
        obtain ⟨hC, hkp, hi3⟩ := hp
        obtain ⟨hr, l3, l4, k4⟩ := fin none C hC
        exact ⟨_, _, hr, .inl ⟨rfl, ⟨put1 hI.2 hi3 l3 rfl, l4, k4⟩, hKt (hKt p2 hkp) (hKb _ _ _ _ (by omega) l3 rfl)⟩⟩
      | ret =>
        obtain ⟨hr, l3, l4, k4⟩ := fin (some .ret) C hp.1
        exact ⟨_, _, hr, .inr ⟨rfl, .ret, put1 (hIx _) hp.2 l3 rfl, l4, k4⟩⟩
      | exit id =>
        obtain ⟨hr, l3, l4, k4⟩ := fin (some (.exit id)) C hp.1
        exact ⟨_, _, hr, .inr ⟨rfl, .exit id, put1 (hIx _) hp.2 l3 rfl, l4, k4⟩⟩
      | goto t =>
        obtain ⟨hr, l3, l4, k4⟩ := fin (some (.goto t)) C hp.1
        exact ⟨_, _, hr, .inr ⟨rfl, .goto t, put1 (hIx _) hp.2 l3 rfl, l4, k4⟩⟩
      | panic ch => exact hp.elim
      | outgrown => exact hp.elim
    · rintro e C ⟨⟨v, rfl⟩, (⟨xs, hS, hi, hl, hk⟩ | ⟨pre, hSp, c, hi, hl, hk⟩)⟩
      · exact ⟨none, _, by have h := run_endLoop (P := P) hl (by rw [hrec]; simp); rw [hrec] at h; exact h, hdone _ xs _ (Nat.le_refl _) hS (put1 hI.2 hi hl rfl) (other hk)⟩
      · exact ⟨some c, _, by have h := run_endLoop (P := P) hl (by rw [hrec]; simp); rw [hrec] at h; exact h, hstop _ c pre _ (Nat.le_refl _) hSp (put1 (hIx c) hi hl rfl) (other hk)⟩
end Go.Proofs.Ytimplkdmhndalaa
