/- nack's map of tries: what it holds, key by key. -/
import Derived.Test.YteobkcmfpmolmaaTnE
import Derived.Maps.OwnSet
namespace Go.Proofs.Yteobkcmfpmolmaa
open Go Go.RowKit Go.Shelf
open Go.Maps (Keyed)
abbrev mapT : TypeId := 59
theorem keyU : Keyed Try.prog 31 := Go.Maps.int_keyed Try.underlying31
theorem zeroInt (w : World) : (zeroValue 3).run Try.prog w = .ok (.int .i64 0) w := by kernel_rfl
/-- Block b is a map of at most n keys that says f. -/
structure Mp (w : World) (b n : Nat) (f : Int → Int) : Prop where
  ex : ∃ D : DataW Unit, w.ownsMap Try.prog 31 (plainElem Try.prog 3) b n D ∧ ∀ k : Int, D.atKey (.int .u32 k) (.lit (.int .i64 0)) = .lit (.int .i64 (f k))
theorem Mp.lt {w : World} {b n : Nat} {f : Int → Int} (h : Mp w b n f) : b < w.heap.size := by obtain ⟨D, h, _⟩ := h.ex; exact h.lt
theorem Mp.mono {w : World} {b n m : Nat} {f : Int → Int} (h : Mp w b n f) (hn : n ≤ m) : Mp w b m f := by obtain ⟨D, h, g⟩ := h.ex; exact ⟨D, h.mono hn, g⟩
theorem Mp.drew {w : World} {b n : Nat} {f : Int → Int} (h : Mp w b n f) : Mp w.drew b n f := by obtain ⟨D, h, g⟩ := h.ex; exact ⟨D, h.drew, g⟩
theorem Mp.at {w w' : World} {b n : Nat} {f : Int → Int} (h : Mp w b n f) (e : w'.heap[b]? = w.heap[b]?) : Mp w' b n f := by
  obtain ⟨D, ⟨es, clock, hb, F, hs, hD⟩, g⟩ := h.ex
  exact ⟨D, ⟨es, clock, e.trans hb, F, hs, hD⟩, g⟩
theorem Mp.kept {w w' : World} {b n : Nat} {f : Int → Int} {bs : List Nat} (h : Mp w b n f) (k : Kept bs w w') (hb : b ∉ bs) : Mp w' b n f := h.at (k.block b h.lt hb)
theorem Mp.made (w : World) : Mp (w.alloc (.map #[] 0)) w.heap.size 0 (fun _ => 0) :=
  ⟨.map [], World.ownsMap_made w Try.prog 31 _, fun _ => rfl⟩
/-- A cell lies in no map. -/
theorem Mp.no_cell {w : World} {b n : Nat} {f : Int → Int} (h : Mp w b n f) {o : Nat} {v : Value} {s : Option Nat} : w.cell? ⟨b, o, s⟩ ≠ some v := by
  obtain ⟨D, ⟨es, clock, hb, F, hs, hD⟩, g⟩ := h.ex
  intro e
  simp [World.cell?, hb] at e
theorem lit_eq {x y : Int} (e : (DataW.lit (Lit.int .i64 x) : DataW Unit) = .lit (.int .i64 y)) : x = y := by
  simpa using e
theorem Mp.look {w : World} {b n : Nat} {f : Int → Int} (h : Mp w b n f) {k : Int} (hk : (Lit.int .u32 k).wf = true) :
    (Instr.lookup mapT (.map (some b)) (.int .u32 k) false).run Try.prog w = .ok (.int .i64 (f k)) w := by
  obtain ⟨D, h, g⟩ := h.ex
  obtain ⟨c, hrun, hat, _⟩ := h.lookup_int keyU Try.underlying59 Try.underlying3 (zeroInt w) (Go.Maps.keyOf_int_mk Try.underlying31 hk)
  rw [lit_eq ((g k).symm.trans hat)]
  exact hrun
theorem Mp.put {w : World} {b n : Nat} {f : Int → Int} (h : Mp w b n f) {k v : Int} (hn : n < maxLen) (hk : (Lit.int .u32 k).wf = true) (hv : (Lit.int .i64 v).wf = true) :
    ∃ w', (Instr.mapUpdate mapT (.map (some b)) (.int .u32 k) (.int .i64 v)).run Try.prog w = .ok () w' ∧ Mp w' b (n + 1) (fun j => if j = k then v else f j) ∧ w.grownBy w' (some b) := by
  obtain ⟨D, h, g⟩ := h.ex
  obtain ⟨w', hrun, h', hg⟩ := h.update keyU Try.underlying59 hn (Go.Maps.keyOf_int_mk Try.underlying31 hk) (plainElem_int Try.underlying3 hv)
  refine ⟨w', hrun, ⟨_, h', fun j => ?_⟩, hg⟩
  obtain ⟨es, clock, hb, F, hs, hD⟩ := h
  by_cases hj : j = k
  · subst hj
    rw [if_pos rfl]
    exact Go.Maps.atKey_put_same ⟨_, hD⟩ (by simp [WideAt.IsKeyLit]) _ _
  · rw [if_neg hj, Go.Maps.atKey_put_other (by intro e; injection e with _ e; exact hj e)]
    exact g j
theorem Mp.drop {w : World} {b n : Nat} {f : Int → Int} (h : Mp w b n f) {k : Int} (hk : (Lit.int .u32 k).wf = true) (ty : TypeId) :
    ∃ w', (Builtin.delete_ #[mapT, 31] ty #[.map (some b), .int .u32 k]).run Try.prog w = .ok (.tuple #[]) w' ∧ Mp w' b n (fun j => if j = k then 0 else f j) ∧ w.grownBy w' (some b) := by
  obtain ⟨D, h, g⟩ := h.ex
  obtain ⟨w', hrun, h', hg⟩ := h.drop keyU Try.underlying59 (Go.Maps.keyOf_int_mk Try.underlying31 hk) ty
  refine ⟨w', hrun, ⟨_, h', fun j => ?_⟩, hg.grown⟩
  by_cases hj : j = k
  · subst hj
    rw [if_pos rfl]
    exact Go.Maps.atKey_del_same _
  · rw [if_neg hj, Go.Maps.atKey_del_other (by intro e; injection e with _ e; exact hj e)]
    exact g j
end Go.Proofs.Yteobkcmfpmolmaa
