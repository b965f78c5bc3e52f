/- A world in which the listed tables lie as the library lays them; the cell of MaxLen. -/
import Derived.Test.YtdfbofkdlgfblaaDoorRows
import Derived.Test.YtdfbofkdlgfblaaDoorTie
import Derived.Deep.DeepHandedRow
import Derived.Shelf.Vars
import Derived.LaidLaws
import Derived.ProofKit
namespace Go.Proofs.YtdfbofkdlgfblaaDoor
open Go Go.ChangeShapes Go.WideShapes Go.ChangeAt Go.RowKit
/-- The cells of plain data. -/
def flatF : Nat → DataW Unit → List Value
  | _, .lit (.int k n) => [.int k n]
  | f + 1, .agg l => l.flatMap (flatF f)
  | _, _ => []
def layCells (cs : List Value) : Obj → Obj
  | .cells _ t frozen => .cells cs.toArray t frozen
  | o => o
/-- The settled world, the two tables laid. -/
noncomputable def laidWorld (os : Os) : World :=
  let w0 := World.holding Tryd.prog os ⟨#[], #[], []⟩
  { w0 with heap := (w0.heap.modify 1 (layCells (flatF 3 Rows.laid_unicode_utf8_first))).modify 2 (layCells (flatF 3 Rows.laid_unicode_utf8_acceptRanges)) }
def listed : List (String × DataW Unit) := Rows.scriptNumbersRow.laid
theorem laid_met (os : Os) (args : Array Value)
    (h : (DataW.laidRun Tryd.prog ((laidWorld os).forCall (fun _ _ => 0) ⟨#[], args, []⟩).memory 8 (listed.map (·.1))).map (·.1) = some listed)
    (hr : (DataW.laidRun Tryd.prog ((laidWorld os).forCall (fun _ _ => 0) ⟨#[], args, []⟩).memory 8 (listed.map (·.1))).map (fun x => decide x.2.Nodup && laidRowsB Tryd.prog ((laidWorld os).forCall (fun _ _ => 0) ⟨#[], args, []⟩).memory x.2) = some true) :
    laidMet Tryd.prog listed ((laidWorld os).forCall (fun _ _ => 0) ⟨#[], args, []⟩).memory := laidMet_of_run' 8 h hr
/-- MaxLen's cell holds some number. -/
theorem max_cell {W : World} (h : W.ShapedOpen Tryd.prog) : ∃ m, W.cell? ⟨0, 0, none⟩ = some (.int .i64 m) :=
  cell_of_shapedOpen_int (t := 3) (zero := #[.int .i64 0]) h (of_decide_eq_true (by kernel_rfl)) (by kernel_rfl) rfl (by kernel_rfl) (by kernel_rfl) Tryd.underlying3
end Go.Proofs.YtdfbofkdlgfblaaDoor
