/- What a reading of an argument tells of its cells, field by field and element by element. -/
import Derived.Test.YtgdofgckjkmhjaaProg
import Derived.Test.YtgdofgckjkmhjaaMem
import Derived.ProofKit
import Derived.OpenShut
import Derived.Deep.Slices
namespace Go.Proofs.Ytgdofgckjkmhjaa
open Go Go.ChangeShapes Go.WideShapes Go.ChangeAt Go.RowKit Go.Deep
section
variable {H : Type} {enc : TypeId × Value → H} {P : Program} {w : World} {base : Nat} {spare : Nat → Bool} {held : Bool}
/-- The cells cs read as something of type t. -/
def Rd (enc : TypeId × Value → H) (P : Program) (w : World) (base : Nat) (spare : Nat → Bool) (held : Bool) (t : TypeId) (cs : List Value) : Prop := ∃ fuel x, DataW.trod enc P w base spare held fuel t cs = some x
theorem Rd.field {t : TypeId} {cs : List Value} {fs : Array Field} (h : Rd enc P w base spare held t cs) (ht : P.underlying t = some (.struct fs)) (i : Nat) (f : Field) (hf : fs[i]? = some f) : Rd enc P w base spare held f.type ((cs.drop f.offset).take (P.cellsOf f.type)) := by
  obtain ⟨fuel, x, h⟩ := h
  obtain ⟨xs, n, _, _, _, hlen, hall⟩ := DataW.trod_struct ht h
  have hi : i < fs.size := by
    rcases Nat.lt_or_ge i fs.size with g | g
    · exact g
    · simp [Array.getElem?_eq_none g] at hf
  exact ⟨n, xs[i]'(by omega), by rw [hall i f hf]; simp [hlen, hi]⟩
theorem Rd.elem {t e : TypeId} {cs : List Value} {n : Nat} (h : Rd enc P w base spare held t cs) (ht : P.underlying t = some (.array n e)) (i : Nat) (hi : i < n) : Rd enc P w base spare held e ((cs.drop (i * P.cellsOf e)).take (P.cellsOf e)) := by
  obtain ⟨fuel, x, h⟩ := h
  obtain ⟨xs, m, _, _, _, hlen, hall⟩ := DataW.trod_array ht h
  exact ⟨m, xs[i]'(by omega), by rw [hall i hi]; simp [hlen, hi]⟩
theorem Rd.len {t : TypeId} {cs : List Value} {fs : Array Field} (h : Rd enc P w base spare held t cs) (ht : P.underlying t = some (.struct fs)) : cs.length = P.cellsOf t := by
  obtain ⟨fuel, x, h⟩ := h
  obtain ⟨xs, n, _, _, hl, _⟩ := DataW.trod_struct ht h
  exact hl
theorem Rd.int {t : TypeId} {k : IntKind} {cs : List Value} (h : Rd enc P w base spare held t cs) (ht : P.underlying t = some (.int k)) : ∃ n, cs = [.int k n] ∧ (Lit.int k n).wf = true := by
  obtain ⟨fuel, x, h⟩ := h
  obtain ⟨n, h1, _, h2⟩ := DataW.trod_int ht h
  exact ⟨n, h1, h2⟩
theorem at_of {cs : List Value} {k : Nat} {v : Value} (h : (cs.drop k).take 1 = [v]) : cs[k]? = some v := by
  have : ((cs.drop k).take 1)[0]? = some v := by rw [h]; rfl
  rw [List.getElem?_take_of_lt (by omega), List.getElem?_drop] at this
  simpa using this
theorem at_in {cs : List Value} {o s k : Nat} {v : Value} (h : ((cs.drop o).take s)[k]? = some v) : cs[o + k]? = some v := by
  rcases Nat.lt_or_ge k s with g | g
  · rw [List.getElem?_take_of_lt g, List.getElem?_drop] at h; exact h
  · rw [List.getElem?_eq_none (by simp; omega)] at h; simp at h
end
end Go.Proofs.Ytgdofgckjkmhjaa
