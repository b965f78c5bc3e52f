/- Fields and Line of the document. -/
import Derived.Test.YtdfbofkdlgfblaaDoorScI
import Derived.BigGuardPart
namespace Go.Proofs.YtdfbofkdlgfblaaDoor
open Go Go.RowKit
/-- What Fields answers. -/
def FldQ (x : List Int) (w w' : World) (e : Ending) : Prop :=
  Kept [] w w' ∧ ∃ wd a n c ok, e = .returned (.tuple #[txt wd, .slice a n c, .bool ok]) ∧ (ok = false → lineL x = none) ∧
    (ok = true → wd = wordL (x.getD 0 0) ∧ n = (getF x (fldL (x.getD 0 0))).length ∧ Rw w' a (getF x (fldL (x.getD 0 0))) ∧ lineL x = some (lineK (x.getD 0 0) (getF x (fldL (x.getD 0 0)))))
theorem fld_no {x : List Int} {w w' : World} {wd : List UInt8} {a : Option Addr} {n c : Nat} (hk : Kept [] w w') (hl : lineL x = none) : FldQ x w w' (.returned (.tuple #[txt wd, .slice a n c, .bool false])) :=
  ⟨hk, wd, a, n, c, false, rfl, fun _ => hl, fun h => by cases h⟩
theorem fld_yes {x : List Int} {w : World} {o : Obj} {ns : List Int} (hg : getF x (fldL (x.getD 0 0)) = ns) (hl : lineL x = some (lineK (x.getD 0 0) ns)) :
    FldQ x w (((w.alloc o).alloc (.cells (ints ns).toArray 3)).drew) (.returned (.tuple #[txt (wordL (x.getD 0 0)), .slice (some ⟨w.heap.size + 1, 0, none⟩) ns.length ns.length, .bool true])) := by
  refine ⟨(((Kept.refl [] w).alloc _).alloc _).drew, _, _, _, _, true, rfl, (fun h => by cases h), fun _ => ⟨rfl, by rw [hg], ?_, by rw [hg]; exact hl⟩⟩
  rw [hg]
  have hb := (Blk.new (w.alloc o) (ints ns) 3).drew
  rw [show (w.alloc o).heap.size = w.heap.size + 1 by simp] at hb
  exact Rw.blk hb (List.take_of_length_le (by rw [ints_len]; exact Nat.le_refl _))
theorem fld_none {x : List Int} {w w' : World} (hk : Kept [] w w') (hg : getF x (fldL (x.getD 0 0)) = []) (hl : lineL x = some (lineK (x.getD 0 0) [])) :
    FldQ x w w' (.returned (.tuple #[txt (wordL (x.getD 0 0)), .slice none 0 0, .bool true])) :=
  ⟨hk, _, none, 0, 0, true, rfl, (fun h => by cases h), fun _ => ⟨rfl, by rw [hg]; rfl, by rw [hg]; exact Rw.nil _ _, by rw [hg]; exact hl⟩⟩
end Go.Proofs.YtdfbofkdlgfblaaDoor
