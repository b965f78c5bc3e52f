/-
  No cell of these rows narrows 'for every input' (looked for: loops, veiled, ifaces, maps, wideKeys, modest, calm, conditions, laid).
  DERIVED. THE GIVEN ROWS OF THIS SEAT. 3 by the template 'for every input the law returns true; each argument reads behind the call as it read before'; 0 by the template 'total and deterministic' (their statements: YteobkcmfpmolmaaTotals.lean).
  GIVEN WITH THE SEED: the statements are not yours to turn. If you find one false, say at which input.
  Laid BY PROGRAM, IN A SANDBOX (cutbox-rows.mjs): the forced cells as the released guide's own fill.sh prints them over the translation c9dc16a707c3662b… (all of the seat's roots in one cut). By AI agents, Wed Nov 11 2026. No macro, syntax, notation, axiom, sorry.
-/
import Derived.Test.YteobkcmfpmolmaaChecked
import GoSem.Claim
import GoSem.ClaimJoined
import GoSem.ClaimMapViews
import Derived.JoinedTies
import Derived.KernelRfl
namespace Go.Proofs.Yteobkcmfpmolmaa
/- THE CELL 'sum', in the pinned program and in every row, IS THE sha256 OF THE DUMP (.gsa) THAT YteobkcmfpmolmaaProg.lean LOADS. Nothing in Lean hashes anything: it is a label: what it is worth is what the hold of that sum in a sandbox is worth. -/
noncomputable def Try.pinned : Pinned := { name := "yteobkcmfpmolmaa", sum := "c9dc16a707c3662b6684b61c0790ed75bce97ef22957989757f7cdfa2f2ea753", checked := Try.checked }
namespace Rows
def none {H : Type} : Left H := { results := [], args := [] }

/-- 'backstaylaw19.NackPlays': WHATEVER THE INPUT: true; the input reads as it did. -/
def nackPlaysSpec : ChangeSpec := { name := "nackPlays", fn := fun _ => fun
  | [d1, d2] => { results := [.lit (.bool true)], args := [d1, d2] }
  | _ => none }
def nackPlaysRow : OpenClaim := { program := "yteobkcmfpmolmaa", sum := "c9dc16a707c3662b6684b61c0790ed75bce97ef22957989757f7cdfa2f2ea753", func := "backstay/backstaylaw19.NackPlays", spec := "nackPlays", unfollowed := true, recurses := true, apart := false }
def NackPlaysSaid : Prop := nackPlaysRow.holds Try.pinned (OpenSpec.ofChange nackPlaysSpec)

/-- ITS FALSE NEIGHBOUR: 'it returns false'. Refute it at one input. -/
def nackPlaysWrong : ChangeSpec := { name := "nackPlays", fn := fun _ => fun
  | [d1, d2] => { results := [.lit (.bool false)], args := [d1, d2] }
  | _ => none }
def NackPlaysWrongFalsely : Prop := nackPlaysRow.holds Try.pinned (OpenSpec.ofChange nackPlaysWrong)

/-- 'backstaylaw19.NackAgain': WHATEVER THE INPUT: true; the input reads as it did. -/
def nackAgainSpec : ChangeSpec := { name := "nackAgain", fn := fun _ => fun
  | [d1, d2, d3] => { results := [.lit (.bool true)], args := [d1, d2, d3] }
  | _ => none }
def nackAgainRow : OpenClaim := { program := "yteobkcmfpmolmaa", sum := "c9dc16a707c3662b6684b61c0790ed75bce97ef22957989757f7cdfa2f2ea753", func := "backstay/backstaylaw19.NackAgain", spec := "nackAgain", unfollowed := true, recurses := true, apart := false }
def NackAgainSaid : Prop := nackAgainRow.holds Try.pinned (OpenSpec.ofChange nackAgainSpec)

/-- ITS FALSE NEIGHBOUR: 'it returns false'. Refute it at one input. -/
def nackAgainWrong : ChangeSpec := { name := "nackAgain", fn := fun _ => fun
  | [d1, d2, d3] => { results := [.lit (.bool false)], args := [d1, d2, d3] }
  | _ => none }
def NackAgainWrongFalsely : Prop := nackAgainRow.holds Try.pinned (OpenSpec.ofChange nackAgainWrong)

/-- 'backstaylaw19.NackRooms': WHATEVER THE INPUT: true; the input reads as it did. -/
def nackRoomsSpec : ChangeSpec := { name := "nackRooms", fn := fun _ => fun
  | [d1, d2, d3] => { results := [.lit (.bool true)], args := [d1, d2, d3] }
  | _ => none }
def nackRoomsRow : OpenClaim := { program := "yteobkcmfpmolmaa", sum := "c9dc16a707c3662b6684b61c0790ed75bce97ef22957989757f7cdfa2f2ea753", func := "backstay/backstaylaw19.NackRooms", spec := "nackRooms", unfollowed := true, recurses := true, apart := false }
def NackRoomsSaid : Prop := nackRoomsRow.holds Try.pinned (OpenSpec.ofChange nackRoomsSpec)

/-- ITS FALSE NEIGHBOUR: 'it returns false'. Refute it at one input. -/
def nackRoomsWrong : ChangeSpec := { name := "nackRooms", fn := fun _ => fun
  | [d1, d2, d3] => { results := [.lit (.bool false)], args := [d1, d2, d3] }
  | _ => none }
def NackRoomsWrongFalsely : Prop := nackRoomsRow.holds Try.pinned (OpenSpec.ofChange nackRoomsWrong)

/- THE SECOND FORM. 'bulk': how many values and letters a reading holds, each counted each time it is reached (what is shared counts as often as it is met; a slice's spare places count too). A statement '..UptoSaid' is the law's where the arguments, and the package variables that the reading takes, are together of bulk at most 1048576: NARROWER than '..Said'. Prove '..Said' where nothing that the law and all that it calls make is longer than what came in: it says more and counts as full. Else prove '..UptoSaid'. A law counts once. -/
mutual
def uptoBulk {H : Type} : DataW H → Nat
  | .lit (.string bytes) => bytes.length + 1
  | .lit _ => 1
  | .nil => 1
  | .ptr d => uptoBulk d + 1
  | .slice elems spare => uptoBulkAll elems + uptoBulkAll spare + 1
  | .agg parts => uptoBulkAll parts + 1
  | .iface _ d => uptoBulk d + 1
  | .map entries => uptoBulkEntries entries + 1
  | .held _ => 1
def uptoBulkAll {H : Type} : List (DataW H) → Nat
  | [] => 0
  | d :: r => uptoBulk d + uptoBulkAll r
def uptoBulkEntries {H : Type} : List (Lit × DataW H) → Nat
  | [] => 0
  | x :: r => uptoBulkEntry x + uptoBulkEntries r
def uptoBulkEntry {H : Type} : Lit × DataW H → Nat
  | (.string bytes, d) => bytes.length + uptoBulk d + 1
  | (_, d) => uptoBulk d + 1
 end
def uptoSmall : (H : Type) → List (DataW H) → Bool := fun _ ds => decide (uptoBulkAll ds ≤ 1048576)
def OpenSpec.upto (s : _root_.Go.ChangeSpec) : _root_.Go.OpenSpec := { _root_.Go.OpenSpec.ofChange s with cond := some uptoSmall }

/-- 'backstaylaw19.NackPlays', WHERE WHAT IT READS IS OF BULK AT MOST 1048576: true; the input reads as it did. -/
def nackPlaysUptoRow : OpenClaim := { program := "yteobkcmfpmolmaa", sum := "c9dc16a707c3662b6684b61c0790ed75bce97ef22957989757f7cdfa2f2ea753", func := "backstay/backstaylaw19.NackPlays", spec := "nackPlays", unfollowed := true, recurses := true, apart := false, narrowed := true }
def NackPlaysUptoSaid : Prop := nackPlaysUptoRow.holds Try.pinned (OpenSpec.upto nackPlaysSpec)

/-- 'backstaylaw19.NackAgain', WHERE WHAT IT READS IS OF BULK AT MOST 1048576: true; the input reads as it did. -/
def nackAgainUptoRow : OpenClaim := { program := "yteobkcmfpmolmaa", sum := "c9dc16a707c3662b6684b61c0790ed75bce97ef22957989757f7cdfa2f2ea753", func := "backstay/backstaylaw19.NackAgain", spec := "nackAgain", unfollowed := true, recurses := true, apart := false, narrowed := true }
def NackAgainUptoSaid : Prop := nackAgainUptoRow.holds Try.pinned (OpenSpec.upto nackAgainSpec)

/-- 'backstaylaw19.NackRooms', WHERE WHAT IT READS IS OF BULK AT MOST 1048576: true; the input reads as it did. -/
def nackRoomsUptoRow : OpenClaim := { program := "yteobkcmfpmolmaa", sum := "c9dc16a707c3662b6684b61c0790ed75bce97ef22957989757f7cdfa2f2ea753", func := "backstay/backstaylaw19.NackRooms", spec := "nackRooms", unfollowed := true, recurses := true, apart := false, narrowed := true }
def NackRoomsUptoSaid : Prop := nackRoomsUptoRow.holds Try.pinned (OpenSpec.upto nackRoomsSpec)

end Rows
end Go.Proofs.Yteobkcmfpmolmaa
