/-
  No cell of these rows narrows 'for every input' (looked for: loops, veiled, ifaces, maps, wideKeys, modest, calm, conditions, laid).
  DERIVED. THE GIVEN ROWS OF THIS SEAT. 4 by the template 'for every input the law returns true; each argument reads behind the call as it read before'; 0 by the template 'total and deterministic' (their statements: YthpdoekeooedfaaTotals.lean).
  GIVEN WITH THE SEED: the statements are not yours to turn. If you find one false, say at which input.
  Laid BY PROGRAM, IN A SANDBOX (cutbox-rows.mjs): the forced cells as the released guide's own fill.sh prints them over the translation 8f3607d976e7f52f… (all of the seat's roots in one cut). By AI agents, Wed Nov 11 2026. No macro, syntax, notation, axiom, sorry.
-/
import Derived.Test.YthpdoekeooedfaaChecked
import GoSem.Claim
import GoSem.ClaimJoined
import GoSem.ClaimMapViews
import Derived.JoinedTies
import Derived.KernelRfl
namespace Go.Proofs.Ythpdoekeooedfaa
/- THE CELL 'sum', in the pinned program and in every row, IS THE sha256 OF THE DUMP (.gsa) THAT YthpdoekeooedfaaProg.lean LOADS. Nothing in Lean hashes anything: it is a label: what it is worth is what the hold of that sum in a sandbox is worth. -/
noncomputable def Try.pinned : Pinned := { name := "ythpdoekeooedfaa", sum := "8f3607d976e7f52f4b14347268b4a45f34b770cecbf0d1e86f424369b6312c21", checked := Try.checked }
namespace Rows
def none {H : Type} : Left H := { results := [], args := [] }

/-- 'backstaylaw10.PrioOrder': WHATEVER THE INPUT: true; the input reads as it did. -/
def prioOrderSpec : ChangeSpec := { name := "prioOrder", fn := fun _ => fun
  | [d] => { results := [.lit (.bool true)], args := [d] }
  | _ => none }
def prioOrderRow : OpenClaim := { program := "ythpdoekeooedfaa", sum := "8f3607d976e7f52f4b14347268b4a45f34b770cecbf0d1e86f424369b6312c21", func := "backstay/backstaylaw10.PrioOrder", spec := "prioOrder", apart := false }
def PrioOrderSaid : Prop := prioOrderRow.holds Try.pinned (OpenSpec.ofChange prioOrderSpec)

/-- ITS FALSE NEIGHBOUR: 'it returns false'. Refute it at one input. -/
def prioOrderWrong : ChangeSpec := { name := "prioOrder", fn := fun _ => fun
  | [d] => { results := [.lit (.bool false)], args := [d] }
  | _ => none }
def PrioOrderWrongFalsely : Prop := prioOrderRow.holds Try.pinned (OpenSpec.ofChange prioOrderWrong)

/-- 'backstaylaw10.PrioRooms': WHATEVER THE INPUT: true; the input reads as it did. -/
def prioRoomsSpec : ChangeSpec := { name := "prioRooms", fn := fun _ => fun
  | [d] => { results := [.lit (.bool true)], args := [d] }
  | _ => none }
def prioRoomsRow : OpenClaim := { program := "ythpdoekeooedfaa", sum := "8f3607d976e7f52f4b14347268b4a45f34b770cecbf0d1e86f424369b6312c21", func := "backstay/backstaylaw10.PrioRooms", spec := "prioRooms", apart := false }
def PrioRoomsSaid : Prop := prioRoomsRow.holds Try.pinned (OpenSpec.ofChange prioRoomsSpec)

/-- ITS FALSE NEIGHBOUR: 'it returns false'. Refute it at one input. -/
def prioRoomsWrong : ChangeSpec := { name := "prioRooms", fn := fun _ => fun
  | [d] => { results := [.lit (.bool false)], args := [d] }
  | _ => none }
def PrioRoomsWrongFalsely : Prop := prioRoomsRow.holds Try.pinned (OpenSpec.ofChange prioRoomsWrong)

/-- 'backstaylaw10.PrioPlays': WHATEVER THE INPUT: true; the input reads as it did. -/
def prioPlaysSpec : ChangeSpec := { name := "prioPlays", fn := fun _ => fun
  | [d1, d2] => { results := [.lit (.bool true)], args := [d1, d2] }
  | _ => none }
def prioPlaysRow : OpenClaim := { program := "ythpdoekeooedfaa", sum := "8f3607d976e7f52f4b14347268b4a45f34b770cecbf0d1e86f424369b6312c21", func := "backstay/backstaylaw10.PrioPlays", spec := "prioPlays", unfollowed := true, recurses := true, apart := false }
def PrioPlaysSaid : Prop := prioPlaysRow.holds Try.pinned (OpenSpec.ofChange prioPlaysSpec)

/-- ITS FALSE NEIGHBOUR: 'it returns false'. Refute it at one input. -/
def prioPlaysWrong : ChangeSpec := { name := "prioPlays", fn := fun _ => fun
  | [d1, d2] => { results := [.lit (.bool false)], args := [d1, d2] }
  | _ => none }
def PrioPlaysWrongFalsely : Prop := prioPlaysRow.holds Try.pinned (OpenSpec.ofChange prioPlaysWrong)

/-- 'backstaylaw10.PrioDrops': WHATEVER THE INPUT: true; the input reads as it did. -/
def prioDropsSpec : ChangeSpec := { name := "prioDrops", fn := fun _ => fun
  | [d1, d2, d3] => { results := [.lit (.bool true)], args := [d1, d2, d3] }
  | _ => none }
def prioDropsRow : OpenClaim := { program := "ythpdoekeooedfaa", sum := "8f3607d976e7f52f4b14347268b4a45f34b770cecbf0d1e86f424369b6312c21", func := "backstay/backstaylaw10.PrioDrops", spec := "prioDrops", unfollowed := true, recurses := true, apart := false }
def PrioDropsSaid : Prop := prioDropsRow.holds Try.pinned (OpenSpec.ofChange prioDropsSpec)

/-- ITS FALSE NEIGHBOUR: 'it returns false'. Refute it at one input. -/
def prioDropsWrong : ChangeSpec := { name := "prioDrops", fn := fun _ => fun
  | [d1, d2, d3] => { results := [.lit (.bool false)], args := [d1, d2, d3] }
  | _ => none }
def PrioDropsWrongFalsely : Prop := prioDropsRow.holds Try.pinned (OpenSpec.ofChange prioDropsWrong)

/- THE SECOND FORM. 'bulk': how many values and letters a reading holds, each counted each time it is reached (what is shared counts as often as it is met; a slice's spare places count too). A statement '..UptoSaid' is the law's where the arguments, and the package variables that the reading takes, are together of bulk at most 1048576: NARROWER than '..Said'. Prove '..Said' where nothing that the law and all that it calls make is longer than what came in: it says more and counts as full. Else prove '..UptoSaid'. A law counts once. -/
mutual
def uptoBulk {H : Type} : DataW H → Nat
  | .lit (.string bytes) => bytes.length + 1
  | .lit _ => 1
  | .nil => 1
  | .ptr d => uptoBulk d + 1
  | .slice elems spare => uptoBulkAll elems + uptoBulkAll spare + 1
  | .agg parts => uptoBulkAll parts + 1
  | .iface _ d => uptoBulk d + 1
  | .map entries => uptoBulkEntries entries + 1
  | .held _ => 1
def uptoBulkAll {H : Type} : List (DataW H) → Nat
  | [] => 0
  | d :: r => uptoBulk d + uptoBulkAll r
def uptoBulkEntries {H : Type} : List (Lit × DataW H) → Nat
  | [] => 0
  | x :: r => uptoBulkEntry x + uptoBulkEntries r
def uptoBulkEntry {H : Type} : Lit × DataW H → Nat
  | (.string bytes, d) => bytes.length + uptoBulk d + 1
  | (_, d) => uptoBulk d + 1
 end
def uptoSmall : (H : Type) → List (DataW H) → Bool := fun _ ds => decide (uptoBulkAll ds ≤ 1048576)
def OpenSpec.upto (s : _root_.Go.ChangeSpec) : _root_.Go.OpenSpec := { _root_.Go.OpenSpec.ofChange s with cond := some uptoSmall }

/-- 'backstaylaw10.PrioOrder', WHERE WHAT IT READS IS OF BULK AT MOST 1048576: true; the input reads as it did. -/
def prioOrderUptoRow : OpenClaim := { program := "ythpdoekeooedfaa", sum := "8f3607d976e7f52f4b14347268b4a45f34b770cecbf0d1e86f424369b6312c21", func := "backstay/backstaylaw10.PrioOrder", spec := "prioOrder", apart := false, narrowed := true }
def PrioOrderUptoSaid : Prop := prioOrderUptoRow.holds Try.pinned (OpenSpec.upto prioOrderSpec)

/-- 'backstaylaw10.PrioRooms', WHERE WHAT IT READS IS OF BULK AT MOST 1048576: true; the input reads as it did. -/
def prioRoomsUptoRow : OpenClaim := { program := "ythpdoekeooedfaa", sum := "8f3607d976e7f52f4b14347268b4a45f34b770cecbf0d1e86f424369b6312c21", func := "backstay/backstaylaw10.PrioRooms", spec := "prioRooms", apart := false, narrowed := true }
def PrioRoomsUptoSaid : Prop := prioRoomsUptoRow.holds Try.pinned (OpenSpec.upto prioRoomsSpec)

/-- 'backstaylaw10.PrioPlays', WHERE WHAT IT READS IS OF BULK AT MOST 1048576: true; the input reads as it did. -/
def prioPlaysUptoRow : OpenClaim := { program := "ythpdoekeooedfaa", sum := "8f3607d976e7f52f4b14347268b4a45f34b770cecbf0d1e86f424369b6312c21", func := "backstay/backstaylaw10.PrioPlays", spec := "prioPlays", unfollowed := true, recurses := true, apart := false, narrowed := true }
def PrioPlaysUptoSaid : Prop := prioPlaysUptoRow.holds Try.pinned (OpenSpec.upto prioPlaysSpec)

/-- 'backstaylaw10.PrioDrops', WHERE WHAT IT READS IS OF BULK AT MOST 1048576: true; the input reads as it did. -/
def prioDropsUptoRow : OpenClaim := { program := "ythpdoekeooedfaa", sum := "8f3607d976e7f52f4b14347268b4a45f34b770cecbf0d1e86f424369b6312c21", func := "backstay/backstaylaw10.PrioDrops", spec := "prioDrops", unfollowed := true, recurses := true, apart := false, narrowed := true }
def PrioDropsUptoSaid : Prop := prioDropsUptoRow.holds Try.pinned (OpenSpec.upto prioDropsSpec)

end Rows
end Go.Proofs.Ythpdoekeooedfaa
