/- What a block of cells holds, and what a call leaves as it was. -/
import Derived.Below
import Derived.OneCell
import Derived.Deep.QuietTactic
import Derived.Laws.IdiomCopy
import Derived.Deep.MidRow
import Derived.Laws.Rows
import Derived.WalkKit
namespace Go.Proofs.Ytgdofgckjkmhjaa
open Go Go.RowKit

/-- Block b is a row of the cells xs, none of it frozen. -/
def Blk (w : World) (b : Nat) (xs : List Value) (T : TypeId) : Prop := w.heap[b]? = some (.cells xs.toArray T (0, 0))

theorem Blk.lt {w : World} {b : Nat} {xs : List Value} {T : TypeId} (h : Blk w b xs T) : b < w.heap.size := lt_of_block h
theorem Blk.cell {w : World} {b : Nat} {xs : List Value} {T : TypeId} (h : Blk w b xs T) {i : Nat} {v : Value} (hi : xs[i]? = some v) : w.cell? ⟨b, i, none⟩ = some v := by
  unfold Blk at h; simp [World.cell?, h, hi]
theorem Blk.free {w : World} {b : Nat} {xs : List Value} {T : TypeId} (h : Blk w b xs T) (i : Nat) : w.frozen? ⟨b, i, none⟩ = false := by
  unfold Blk at h; simp [World.frozen?, h]
theorem Blk.set {w : World} {b : Nat} {xs : List Value} {T : TypeId} (h : Blk w b xs T) (i : Nat) (u : Value) : Blk (w.setCell ⟨b, i, none⟩ u) b (xs.set i u) T := by
  have hlt := h.lt
  unfold Blk at *
  have h' : w.heap[b] = .cells xs.toArray T (0, 0) := by simpa [Array.getElem?_eq_getElem hlt] using h
  show (w.heap.modify b _)[b]? = _
  rw [Array.getElem?_eq_getElem (by simpa using hlt), Array.getElem_modify_self, h']
  simp
theorem Blk.set_ne {w : World} {b : Nat} {xs : List Value} {T : TypeId} (h : Blk w b xs T) {a : Addr} (ha : b ≠ a.block) (u : Value) : Blk (w.setCell a u) b xs T := by
  unfold Blk at *; rw [Below.heap_setCell _ _ _ _ ha]; exact h
theorem Blk.alloc {w : World} {b : Nat} {xs : List Value} {T : TypeId} (h : Blk w b xs T) (o : Obj) : Blk (w.alloc o) b xs T := by
  have hlt := h.lt
  unfold Blk at *; rw [Below.heap_alloc _ _ _ hlt]; exact h
theorem Blk.drew {w : World} {b : Nat} {xs : List Value} {T : TypeId} (h : Blk w b xs T) : Blk w.drew b xs T := h
theorem Blk.drewN {w : World} {b : Nat} {xs : List Value} {T : TypeId} (h : Blk w b xs T) (n : Nat) : Blk (w.drewN n) b xs T := h
theorem Blk.new (w : World) (xs : List Value) (T : TypeId) : Blk (w.alloc (.cells xs.toArray T)) w.heap.size xs T := by
  show (w.heap.push _)[w.heap.size]? = _
  simp
theorem Blk.new' (w : World) (xs : Array Value) (T : TypeId) : Blk (w.alloc (.cells xs T)) w.heap.size xs.toList T := by
  show (w.heap.push _)[w.heap.size]? = _
  simp

/-- But for the blocks of bs (and new ones), all is as it was. -/
structure Kept (bs : List Nat) (w w' : World) : Prop where
  os : w'.os = w.os
  tape : w'.tape = w.tape
  output : w'.output = w.output
  size : w.heap.size ≤ w'.heap.size
  block : ∀ k, k < w.heap.size → k ∉ bs → w'.heap[k]? = w.heap[k]?

theorem Kept.refl (bs : List Nat) (w : World) : Kept bs w w := ⟨rfl, rfl, rfl, Nat.le_refl _, fun _ _ _ => rfl⟩
theorem Kept.trans {bs cs ds : List Nat} {a b c : World} (h : Kept bs a b) (k : Kept cs b c) (h1 : ∀ x, x ∈ bs → x ∈ ds) (h2 : ∀ x, x ∈ cs → x ∈ ds ∨ a.heap.size ≤ x) : Kept ds a c :=
  ⟨k.os.trans h.os, k.tape.trans h.tape, k.output.trans h.output, Nat.le_trans h.size k.size, fun i hi hn => by
    have hs := h.size
    rw [k.block i (by omega) (fun hc => by rcases h2 i hc with h' | h'; exact hn h'; omega)]
    exact h.block i hi (fun hc => hn (h1 i hc))⟩
theorem Kept.trans0 {bs : List Nat} {a b c : World} (h : Kept bs a b) (k : Kept [] b c) : Kept bs a c :=
  h.trans k (fun _ h => h) (fun _ h => by simp at h)
theorem Kept.trans1 {bs : List Nat} {a b c : World} (h : Kept bs a b) (k : Kept bs b c) : Kept bs a c :=
  h.trans k (fun _ h => h) (fun _ h => .inl h)
theorem Kept.mono {bs cs : List Nat} {a b : World} (h : Kept bs a b) (hm : ∀ x, x ∈ bs → x ∈ cs ∨ a.heap.size ≤ x) : Kept cs a b :=
  ⟨h.os, h.tape, h.output, h.size, fun k hk hn => h.block k hk (fun hc => by rcases hm k hc with h' | h'; exact hn h'; omega)⟩
theorem Kept.drew {bs : List Nat} {a w : World} (h : Kept bs a w) : Kept bs a w.drew := ⟨h.os, h.tape, h.output, h.size, h.block⟩
theorem Kept.drewN {bs : List Nat} {a w : World} (h : Kept bs a w) (n : Nat) : Kept bs a (w.drewN n) := ⟨h.os, h.tape, h.output, h.size, h.block⟩
theorem Kept.alloc {bs : List Nat} {a w : World} (h : Kept bs a w) (o : Obj) : Kept bs a (w.alloc o) :=
  ⟨h.os, h.tape, h.output, by have := h.size; simp; omega, fun k hk hn => by have := h.size; rw [Below.heap_alloc _ _ _ (by omega)]; exact h.block k hk hn⟩
theorem Kept.setCell {bs : List Nat} {a w : World} (h : Kept bs a w) {p : Addr} (hp : p.block ∈ bs ∨ a.heap.size ≤ p.block) (u : Value) : Kept bs a (w.setCell p u) :=
  ⟨h.os, h.tape, h.output, by simp [World.setCell]; exact h.size, fun k hk hn => by
    rw [Below.heap_setCell _ _ _ _ (by rintro rfl; rcases hp with h' | h'; exact hn h'; omega)]; exact h.block k hk hn⟩
theorem Kept.grown {bs : List Nat} {a w w' : World} {row : Option Nat} (h : Kept bs a w) (hg : w.grownBy w' row) (hr : ∀ k, row = some k → k ∈ bs ∨ a.heap.size ≤ k) : Kept bs a w' :=
  ⟨hg.os.trans h.os, hg.tape.trans h.tape, hg.output.trans h.output, Nat.le_trans h.size hg.size, fun k hk hn => by
    have hs := h.size
    rw [hg.block k (by omega) (fun e => by rcases hr k e.symm with h' | h'; exact hn h'; omega)]; exact h.block k hk hn⟩
theorem Kept.toBelow {w w' : World} (h : Kept [] w w') : Below w.heap.size w w' := ⟨h.os, h.tape, h.output, h.size, fun k hk => h.block k hk (by simp)⟩
theorem Kept.ofBelow {w w' : World} (h : Below w.heap.size w w') : Kept [] w w' := ⟨h.os, h.tape, h.output, h.size, fun k hk _ => h.block k hk⟩
theorem Kept.blk {bs : List Nat} {w w' : World} (h : Kept bs w w') {b : Nat} {xs : List Value} {T : TypeId} (hb : Blk w b xs T) (hn : b ∉ bs) : Blk w' b xs T := by
  have hlt := hb.lt
  unfold Blk at *; rw [h.block b hlt hn]; exact hb
theorem Kept.cell {bs : List Nat} {w w' : World} (h : Kept bs w w') {p : Addr} (hp : p.block < w.heap.size) (hn : p.block ∉ bs) : w'.cell? p = w.cell? p := World.cell?_of_block (w := w) (h.block p.block hp hn)
theorem Kept.frozen {bs : List Nat} {w w' : World} (h : Kept bs w w') {p : Addr} (hp : p.block < w.heap.size) (hn : p.block ∉ bs) : w'.frozen? p = w.frozen? p := World.frozen?_of_block (w := w) (h.block p.block hp hn)

theorem ret_int {k : IntKind} {a b : Int} (h : a = b) : Ending.returned (.int k a) = .returned (.int k b) := by rw [h]
theorem ret_bool {a b : Bool} (h : a = b) : Ending.returned (.bool a) = .returned (.bool b) := by rw [h]
/-- A row with the cells vs laid over it from o on. -/
def setAll : List Value → Nat → List Value → List Value
  | xs, _, [] => xs
  | xs, o, v :: r => setAll (xs.set o v) (o + 1) r
theorem setAll_len (xs : List Value) (o : Nat) (vs : List Value) : (setAll xs o vs).length = xs.length := by
  induction vs generalizing xs o with
  | nil => rfl
  | cons v r ih => rw [setAll, ih, List.length_set]
theorem setAll_get (xs : List Value) (o : Nat) (vs : List Value) (h : o + vs.length ≤ xs.length) (i : Nat) : (setAll xs o vs)[i]? = if o ≤ i ∧ i < o + vs.length then vs[i - o]? else xs[i]? := by
  induction vs generalizing xs o with
  | nil => rw [if_neg (by simp only [List.length_nil]; omega)]; rfl
  | cons v r ih =>
    simp only [List.length_cons] at h
    rw [setAll, ih _ _ (by rw [List.length_set]; omega), List.getElem?_set]
    simp only [List.length_cons]
    by_cases h1 : o + 1 ≤ i ∧ i < o + 1 + r.length
    · rw [if_pos h1, if_pos (by omega), show i - o = (i - (o + 1)) + 1 by omega, List.getElem?_cons_succ]
    · rw [if_neg h1]
      by_cases h2 : o = i
      · subst h2; rw [if_pos rfl, if_pos (by omega), if_pos (by omega), Nat.sub_self, List.getElem?_cons_zero]
      · rw [if_neg h2, if_neg (by omega)]
theorem setAll_all (xs vs : List Value) (h : vs.length = xs.length) : setAll xs 0 vs = vs := by
  apply List.ext_getElem?
  intro i
  rw [setAll_get _ _ _ (by omega)]
  by_cases hi : i < vs.length
  · rw [if_pos (by omega), Nat.sub_zero]
  · rw [if_neg (by omega), List.getElem?_eq_none (by omega), List.getElem?_eq_none (by omega)]
theorem Blk.setCells {w : World} {b : Nat} {xs : List Value} {T : TypeId} (h : Blk w b xs T) (o : Nat) (vs : List Value) : Blk (w.setCells b o vs) b (setAll xs o vs) T := by
  induction vs generalizing w xs o with
  | nil => exact h
  | cons v r ih => exact ih (h.set o v) (o + 1)
theorem Blk.setCells_ne {w : World} {b : Nat} {xs : List Value} {T : TypeId} (h : Blk w b xs T) {c : Nat} (hc : b ≠ c) (o : Nat) (vs : List Value) : Blk (w.setCells c o vs) b xs T := by
  induction vs generalizing w o with
  | nil => exact h
  | cons v r ih => exact ih (h.set_ne (a := ⟨c, o, none⟩) hc v) (o + 1)
theorem Kept.setCells {bs : List Nat} {a w : World} (h : Kept bs a w) {c : Nat} (hp : c ∈ bs ∨ a.heap.size ≤ c) (o : Nat) (vs : List Value) : Kept bs a (w.setCells c o vs) := by
  induction vs generalizing w o with
  | nil => exact h
  | cons v r ih => exact ih (h.setCell (p := ⟨c, o, none⟩) hp v) (o + 1)
theorem Blk.there {w : World} {b : Nat} {xs : List Value} {T : TypeId} (h : Blk w b xs T) {o n : Nat} (hn : o + n ≤ xs.length) : w.there b o n := fun j hj => by
  refine ⟨?_, h.free _⟩
  rw [h.cell (i := o + j) (List.getElem?_eq_getElem (by omega))]; rfl

/-- The list of f 0 .. f (n - 1). -/
def tab {α : Type} (n : Nat) (f : Nat → α) : List α := (List.range n).map f
theorem tab_len {α : Type} (n : Nat) (f : Nat → α) : (tab n f).length = n := by simp [tab]
theorem tab_get {α : Type} {n : Nat} {f : Nat → α} {i : Nat} (h : i < n) : (tab n f)[i]? = some (f i) := by simp [tab, h]
theorem tab_out {α : Type} {n : Nat} {f : Nat → α} {i : Nat} (h : n ≤ i) : (tab n f)[i]? = none := by simp [tab, h]
theorem tab_ext {α : Type} {n : Nat} {f g : Nat → α} (h : ∀ i, i < n → f i = g i) : tab n f = tab n g := by
  apply List.ext_getElem?
  intro i
  by_cases hi : i < n
  · rw [tab_get hi, tab_get hi, h i hi]
  · rw [tab_out (by omega), tab_out (by omega)]
theorem tab_set {α : Type} {n : Nat} {f g : Nat → α} {k : Nat} {v : α} (hk : k < n) (hv : v = g k) (h : ∀ i, i < n → i ≠ k → f i = g i) : (tab n f).set k v = tab n g := by
  apply List.ext_getElem?
  intro i
  rw [List.getElem?_set, tab_len]
  by_cases hi : i < n
  · by_cases hk' : k = i
    · subst hk'; rw [if_pos rfl, if_pos hk, tab_get hi, hv]
    · rw [if_neg hk', tab_get hi, tab_get hi, h i hi (fun e => hk' e.symm)]
  · rw [if_neg (by omega), tab_out (by omega), tab_out (by omega)]
theorem tab_eq {α : Type} {n : Nat} {f : Nat → α} {l : List α} (hl : l.length = n) (h : ∀ i, i < n → l[i]? = some (f i)) : l = tab n f := by
  apply List.ext_getElem?
  intro i
  by_cases hi : i < n
  · rw [tab_get hi, h i hi]
  · rw [tab_out (by omega), List.getElem?_eq_none (by omega)]

theorem load_blk {P : Program} {w : World} {ops : Array Oper} {rest : List Oper} {o : Oper} {a : Act} {Q : Exit → Act → World → Prop} (hgd : o.guard = none) (ty : TypeId) (x : Operand) (ho : o.op = .load ty x)
    (g : Nat) (hx : a.eval x = .pointer (some ⟨g, 0, none⟩)) (T : TypeId) (xs : List Value) (d : TypeDesc) (hb : Blk w g xs T)
    (hu : P.underlying ty = some d) (hd : (match d with | .struct _ | .array _ _ => true | _ => false) = true) (hi : (P.info? ty).map (·.size) = some xs.length)
    (h : wpList P ops Q rest (a.put o.dst (.agg xs.toArray)) w) : wpList P ops Q (o :: rest) a w :=
  wpList_load_row hgd ty x ho g hx T xs.toArray (0, 0) d hb hu hd (by simpa using hi) h
theorem store_blk {P : Program} {w : World} {ops : Array Oper} {rest : List Oper} {o : Oper} {a : Act} {Q : Exit → Act → World → Prop} (hgd : o.guard = none) (ty : TypeId) (x y : Operand) (ho : o.op = .store ty x y)
    (g : Nat) (hx : a.eval x = .pointer (some ⟨g, 0, none⟩)) (T : TypeId) (xs ys : List Value) (hy : a.eval y = .agg ys.toArray) (hb : Blk w g xs T) (hl : ys.length = xs.length)
    (hi : (P.info? ty).map (·.size) = some ys.length) (h1 : ∀ v ∈ ys, v.oneCell' = true)
    (h : ∀ w', Blk w' g ys T → Kept [g] w w' → wpList P ops Q rest (a.put o.dst undef) w') : wpList P ops Q (o :: rest) a w :=
  wpList_store_mid hgd ty x y ho g 0 ys.toArray hx hy (hb.there (by simp [hl])) (by simpa using hi) (all_oneCell_toArray h1)
    (h _ (by
      have e := hb.setCells 0 ys
      rw [setAll_all _ _ hl] at e
      simpa using e) ((Kept.refl _ _).setCells (by simp) 0 _))
theorem ret_blk {P : Program} {w : World} {fn : Func} {p : Tmp} {ty : TypeId} (h : fn.results = #[.cell p ty]) (tmps : Array Value) (g : Nat) (T : TypeId) (xs : List Value) (d : TypeDesc)
    (hp : tmps.getD p undef = .pointer (some ⟨g, 0, none⟩)) (hb : Blk w g xs T)
    (hu : P.underlying ty = some d) (hd : (match d with | .struct _ | .array _ _ => true | _ => false) = true) (hi : (P.info? ty).map (·.size) = some xs.length) :
    (results fn tmps).run P w = .ok (.agg xs.toArray) w :=
  results_cell_row h tmps w g T xs.toArray (0, 0) d hp hb hu hd (by simpa using hi)
theorem Kept.range {bs : List Nat} {w w' : World} (h : Kept bs w w') {b o : Nat} {cs : List Value} (hr : w.rangeAt b o cs) (hn : b ∉ bs) : w'.rangeAt b o cs := fun j v hv => by
  have hc := hr j v hv
  rw [h.cell (p := ⟨b, o + j, none⟩) (block_lt_of_cell hc) hn]
  exact hc
theorem Blk.range {w : World} {b : Nat} {xs : List Value} {T : TypeId} (h : Blk w b xs T) : w.rangeAt b 0 xs := fun j v hv => by
  rw [Nat.zero_add]; exact h.cell hv
/-! A whole struct loaded in a region that draws its order: the load as a function of the world. -/
def rowOf (w : World) (b : Nat) : Array Value := match w.heap[b]? with | some (.cells c _ _) => c | _ => #[]
def hasRow (w : World) (b n : Nat) : Bool := match w.heap[b]? with | some (.cells c _ _) => c.size == n | _ => false
def goodPtr (w : World) (n : Nat) : Value → Bool | .pointer (some ⟨b, 0, none⟩) => hasRow w b n | _ => false
def rowAt (w : World) : Value → Array Value | .pointer (some ⟨b, 0, none⟩) => rowOf w b | _ => #[]
theorem goodPtr_at (w : World) (n b : Nat) : goodPtr w n (.pointer (some ⟨b, 0, none⟩)) = hasRow w b n := rfl
theorem rowAt_at (w : World) (b : Nat) : rowAt w (.pointer (some ⟨b, 0, none⟩)) = rowOf w b := rfl
theorem Blk.row {w : World} {b : Nat} {xs : List Value} {T : TypeId} (h : Blk w b xs T) : rowOf w b = xs.toArray := by
  unfold Blk at h; simp [rowOf, h]
theorem Blk.has {w : World} {b : Nat} {xs : List Value} {T : TypeId} (h : Blk w b xs T) : hasRow w b xs.length = true := by
  unfold Blk at h; simp [hasRow, h]
theorem exec_row {P : Program} {w : World} (ty : TypeId) (n : Nat) (d : TypeDesc) (hu : P.underlying ty = some d) (hd : d.isRow = true) (hi : (P.info? ty).map (·.size) = some n)
    (ev : Operand → Value) (o : Oper) (x : Operand) (ho : o.op = .load ty x) (h : goodPtr w n (ev x) = true) :
    (execOp ev o).run P w = .ok (.value (.agg (rowAt w (ev x)))) w := by
  unfold execOp
  rw [ho]
  unfold goodPtr at h
  split at h
  · rename_i b hv
    unfold hasRow at h
    split at h
    · rename_i c t fr hc
      have hsz : c.size = n := by simpa using h
      have hr : (Instr.loadAt ty (.pointer (some ⟨b, 0, none⟩))).run P w = .ok (.agg c) w := by
        simp only [Instr.loadAt, Instr.sureAddr, Sem.run_bind, Sem.run_pure, Result.andThen_ok, run_loadVar_mid w b 0 ty c.toList d (fun j v hv => by simp only [World.cell?, hc, Nat.zero_add]; simpa using hv) hu hd (by simpa [hsz] using hi)]
      simp only [hv, Sem.run_bind, hr, Result.andThen_ok, Sem.run_pure, rowAt, rowOf, hc]
    · cases h
  · cases h
end Go.Proofs.Ytgdofgckjkmhjaa
