/-
  No cell of these rows narrows 'for every input' (looked for: loops, veiled, ifaces, maps, wideKeys, modest, calm, conditions, laid).
  DERIVED. THE GIVEN ROWS OF THIS SEAT. 4 by the template 'for every input the law returns true; each argument reads behind the call as it read before'; 0 by the template 'total and deterministic' (their statements: YthcbacflopbkdaaTotals.lean).
  GIVEN WITH THE SEED: the statements are not yours to turn. If you find one false, say at which input.
  Laid BY PROGRAM, IN A SANDBOX (cutbox-rows.mjs): the forced cells as the released guide's own fill.sh prints them over the translation 4c9d93235c78d139… (all of the seat's roots in one cut). By AI agents, Wed Nov 11 2026. No macro, syntax, notation, axiom, sorry.
-/
import Derived.Test.YthcbacflopbkdaaChecked
import GoSem.Claim
import GoSem.ClaimJoined
import GoSem.ClaimMapViews
import Derived.JoinedTies
import Derived.KernelRfl
namespace Go.Proofs.Ythcbacflopbkdaa
/- THE CELL 'sum', in the pinned program and in every row, IS THE sha256 OF THE DUMP (.gsa) THAT YthcbacflopbkdaaProg.lean LOADS. Nothing in Lean hashes anything: it is a label: what it is worth is what the hold of that sum in a sandbox is worth. -/
noncomputable def Try.pinned : Pinned := { name := "ythcbacflopbkdaa", sum := "4c9d93235c78d139eab60cb53e5c9be89fd0d92d4811b0ce76b4b9d5d90ea440", checked := Try.checked }
namespace Rows
def none {H : Type} : Left H := { results := [], args := [] }

/-- 'backstaylaw11.TimerRooms': WHATEVER THE INPUT: true; the input reads as it did. -/
def timerRoomsSpec : ChangeSpec := { name := "timerRooms", fn := fun _ => fun
  | [d] => { results := [.lit (.bool true)], args := [d] }
  | _ => none }
def timerRoomsRow : OpenClaim := { program := "ythcbacflopbkdaa", sum := "4c9d93235c78d139eab60cb53e5c9be89fd0d92d4811b0ce76b4b9d5d90ea440", func := "backstay/backstaylaw11.TimerRooms", spec := "timerRooms", unfollowed := true, recurses := true, apart := false }
def TimerRoomsSaid : Prop := timerRoomsRow.holds Try.pinned (OpenSpec.ofChange timerRoomsSpec)

/-- ITS FALSE NEIGHBOUR: 'it returns false'. Refute it at one input. -/
def timerRoomsWrong : ChangeSpec := { name := "timerRooms", fn := fun _ => fun
  | [d] => { results := [.lit (.bool false)], args := [d] }
  | _ => none }
def TimerRoomsWrongFalsely : Prop := timerRoomsRow.holds Try.pinned (OpenSpec.ofChange timerRoomsWrong)

/-- 'backstaylaw11.TimerPlays': WHATEVER THE INPUT: true; the input reads as it did. -/
def timerPlaysSpec : ChangeSpec := { name := "timerPlays", fn := fun _ => fun
  | [d1, d2] => { results := [.lit (.bool true)], args := [d1, d2] }
  | _ => none }
def timerPlaysRow : OpenClaim := { program := "ythcbacflopbkdaa", sum := "4c9d93235c78d139eab60cb53e5c9be89fd0d92d4811b0ce76b4b9d5d90ea440", func := "backstay/backstaylaw11.TimerPlays", spec := "timerPlays", unfollowed := true, recurses := true, apart := false }
def TimerPlaysSaid : Prop := timerPlaysRow.holds Try.pinned (OpenSpec.ofChange timerPlaysSpec)

/-- ITS FALSE NEIGHBOUR: 'it returns false'. Refute it at one input. -/
def timerPlaysWrong : ChangeSpec := { name := "timerPlays", fn := fun _ => fun
  | [d1, d2] => { results := [.lit (.bool false)], args := [d1, d2] }
  | _ => none }
def TimerPlaysWrongFalsely : Prop := timerPlaysRow.holds Try.pinned (OpenSpec.ofChange timerPlaysWrong)

/-- 'backstaylaw11.TimerComes': WHATEVER THE INPUT: true; the input reads as it did. -/
def timerComesSpec : ChangeSpec := { name := "timerComes", fn := fun _ => fun
  | [d1, d2, d3] => { results := [.lit (.bool true)], args := [d1, d2, d3] }
  | _ => none }
def timerComesRow : OpenClaim := { program := "ythcbacflopbkdaa", sum := "4c9d93235c78d139eab60cb53e5c9be89fd0d92d4811b0ce76b4b9d5d90ea440", func := "backstay/backstaylaw11.TimerComes", spec := "timerComes", unfollowed := true, recurses := true, apart := false }
def TimerComesSaid : Prop := timerComesRow.holds Try.pinned (OpenSpec.ofChange timerComesSpec)

/-- ITS FALSE NEIGHBOUR: 'it returns false'. Refute it at one input. -/
def timerComesWrong : ChangeSpec := { name := "timerComes", fn := fun _ => fun
  | [d1, d2, d3] => { results := [.lit (.bool false)], args := [d1, d2, d3] }
  | _ => none }
def TimerComesWrongFalsely : Prop := timerComesRow.holds Try.pinned (OpenSpec.ofChange timerComesWrong)

/-- 'backstaylaw11.TimerLeft': WHATEVER THE INPUT: true; the input reads as it did. -/
def timerLeftSpec : ChangeSpec := { name := "timerLeft", fn := fun _ => fun
  | [d1, d2, d3] => { results := [.lit (.bool true)], args := [d1, d2, d3] }
  | _ => none }
def timerLeftRow : OpenClaim := { program := "ythcbacflopbkdaa", sum := "4c9d93235c78d139eab60cb53e5c9be89fd0d92d4811b0ce76b4b9d5d90ea440", func := "backstay/backstaylaw11.TimerLeft", spec := "timerLeft", unfollowed := true, recurses := true, apart := false }
def TimerLeftSaid : Prop := timerLeftRow.holds Try.pinned (OpenSpec.ofChange timerLeftSpec)

/-- ITS FALSE NEIGHBOUR: 'it returns false'. Refute it at one input. -/
def timerLeftWrong : ChangeSpec := { name := "timerLeft", fn := fun _ => fun
  | [d1, d2, d3] => { results := [.lit (.bool false)], args := [d1, d2, d3] }
  | _ => none }
def TimerLeftWrongFalsely : Prop := timerLeftRow.holds Try.pinned (OpenSpec.ofChange timerLeftWrong)

/- THE SECOND FORM. 'bulk': how many values and letters a reading holds, each counted each time it is reached (what is shared counts as often as it is met; a slice's spare places count too). A statement '..UptoSaid' is the law's where the arguments, and the package variables that the reading takes, are together of bulk at most 1048576: NARROWER than '..Said'. Prove '..Said' where nothing that the law and all that it calls make is longer than what came in: it says more and counts as full. Else prove '..UptoSaid'. A law counts once. -/
mutual
def uptoBulk {H : Type} : DataW H → Nat
  | .lit (.string bytes) => bytes.length + 1
  | .lit _ => 1
  | .nil => 1
  | .ptr d => uptoBulk d + 1
  | .slice elems spare => uptoBulkAll elems + uptoBulkAll spare + 1
  | .agg parts => uptoBulkAll parts + 1
  | .iface _ d => uptoBulk d + 1
  | .map entries => uptoBulkEntries entries + 1
  | .held _ => 1
def uptoBulkAll {H : Type} : List (DataW H) → Nat
  | [] => 0
  | d :: r => uptoBulk d + uptoBulkAll r
def uptoBulkEntries {H : Type} : List (Lit × DataW H) → Nat
  | [] => 0
  | x :: r => uptoBulkEntry x + uptoBulkEntries r
def uptoBulkEntry {H : Type} : Lit × DataW H → Nat
  | (.string bytes, d) => bytes.length + uptoBulk d + 1
  | (_, d) => uptoBulk d + 1
 end
def uptoSmall : (H : Type) → List (DataW H) → Bool := fun _ ds => decide (uptoBulkAll ds ≤ 1048576)
def OpenSpec.upto (s : _root_.Go.ChangeSpec) : _root_.Go.OpenSpec := { _root_.Go.OpenSpec.ofChange s with cond := some uptoSmall }

/-- 'backstaylaw11.TimerRooms', WHERE WHAT IT READS IS OF BULK AT MOST 1048576: true; the input reads as it did. -/
def timerRoomsUptoRow : OpenClaim := { program := "ythcbacflopbkdaa", sum := "4c9d93235c78d139eab60cb53e5c9be89fd0d92d4811b0ce76b4b9d5d90ea440", func := "backstay/backstaylaw11.TimerRooms", spec := "timerRooms", unfollowed := true, recurses := true, apart := false, narrowed := true }
def TimerRoomsUptoSaid : Prop := timerRoomsUptoRow.holds Try.pinned (OpenSpec.upto timerRoomsSpec)

/-- 'backstaylaw11.TimerPlays', WHERE WHAT IT READS IS OF BULK AT MOST 1048576: true; the input reads as it did. -/
def timerPlaysUptoRow : OpenClaim := { program := "ythcbacflopbkdaa", sum := "4c9d93235c78d139eab60cb53e5c9be89fd0d92d4811b0ce76b4b9d5d90ea440", func := "backstay/backstaylaw11.TimerPlays", spec := "timerPlays", unfollowed := true, recurses := true, apart := false, narrowed := true }
def TimerPlaysUptoSaid : Prop := timerPlaysUptoRow.holds Try.pinned (OpenSpec.upto timerPlaysSpec)

/-- 'backstaylaw11.TimerComes', WHERE WHAT IT READS IS OF BULK AT MOST 1048576: true; the input reads as it did. -/
def timerComesUptoRow : OpenClaim := { program := "ythcbacflopbkdaa", sum := "4c9d93235c78d139eab60cb53e5c9be89fd0d92d4811b0ce76b4b9d5d90ea440", func := "backstay/backstaylaw11.TimerComes", spec := "timerComes", unfollowed := true, recurses := true, apart := false, narrowed := true }
def TimerComesUptoSaid : Prop := timerComesUptoRow.holds Try.pinned (OpenSpec.upto timerComesSpec)

/-- 'backstaylaw11.TimerLeft', WHERE WHAT IT READS IS OF BULK AT MOST 1048576: true; the input reads as it did. -/
def timerLeftUptoRow : OpenClaim := { program := "ythcbacflopbkdaa", sum := "4c9d93235c78d139eab60cb53e5c9be89fd0d92d4811b0ce76b4b9d5d90ea440", func := "backstay/backstaylaw11.TimerLeft", spec := "timerLeft", unfollowed := true, recurses := true, apart := false, narrowed := true }
def TimerLeftUptoSaid : Prop := timerLeftUptoRow.holds Try.pinned (OpenSpec.upto timerLeftSpec)

end Rows
end Go.Proofs.Ythcbacflopbkdaa
