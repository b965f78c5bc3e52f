/-
  No cell of these rows narrows 'for every input' (looked for: loops, veiled, ifaces, maps, wideKeys, modest, calm, conditions, laid).
  DERIVED. THE GIVEN ROWS OF THIS SEAT. 3 by the template 'for every input the law returns true; each argument reads behind the call as it read before'; 0 by the template 'total and deterministic' (their statements: YthkjllphefnphaaTotals.lean).
  GIVEN WITH THE SEED: the statements are not yours to turn. If you find one false, say at which input.
  Laid BY PROGRAM, IN A SANDBOX (cutbox-rows.mjs): the forced cells as the released guide's own fill.sh prints them over the translation 4143ca673944cc18… (all of the seat's roots in one cut). By AI agents, Wed Nov 11 2026. No macro, syntax, notation, axiom, sorry.
-/
import Derived.Test.YthkjllphefnphaaChecked
import GoSem.Claim
import GoSem.ClaimJoined
import GoSem.ClaimMapViews
import Derived.JoinedTies
import Derived.KernelRfl
namespace Go.Proofs.Ythkjllphefnphaa
/- THE CELL 'sum', in the pinned program and in every row, IS THE sha256 OF THE DUMP (.gsa) THAT YthkjllphefnphaaProg.lean LOADS. Nothing in Lean hashes anything: it is a label: what it is worth is what the hold of that sum in a sandbox is worth. -/
noncomputable def Try.pinned : Pinned := { name := "ythkjllphefnphaa", sum := "4143ca673944cc185a92d2ce57dac664e9818a36c2ddf0abd227fcefa6032640", checked := Try.checked }
namespace Rows
def none {H : Type} : Left H := { results := [], args := [] }

/-- 'backstaylaw14.PathPlays': WHATEVER THE INPUT: true; the input reads as it did. -/
def pathPlaysSpec : ChangeSpec := { name := "pathPlays", fn := fun _ => fun
  | [d] => { results := [.lit (.bool true)], args := [d] }
  | _ => none }
def pathPlaysRow : OpenClaim := { program := "ythkjllphefnphaa", sum := "4143ca673944cc185a92d2ce57dac664e9818a36c2ddf0abd227fcefa6032640", func := "backstay/backstaylaw14.PathPlays", spec := "pathPlays", apart := false }
def PathPlaysSaid : Prop := pathPlaysRow.holds Try.pinned (OpenSpec.ofChange pathPlaysSpec)

/-- ITS FALSE NEIGHBOUR: 'it returns false'. Refute it at one input. -/
def pathPlaysWrong : ChangeSpec := { name := "pathPlays", fn := fun _ => fun
  | [d] => { results := [.lit (.bool false)], args := [d] }
  | _ => none }
def PathPlaysWrongFalsely : Prop := pathPlaysRow.holds Try.pinned (OpenSpec.ofChange pathPlaysWrong)

/-- 'backstaylaw14.PathTries': WHATEVER THE INPUT: true; the input reads as it did. -/
def pathTriesSpec : ChangeSpec := { name := "pathTries", fn := fun _ => fun
  | [d1, d2, d3] => { results := [.lit (.bool true)], args := [d1, d2, d3] }
  | _ => none }
def pathTriesRow : OpenClaim := { program := "ythkjllphefnphaa", sum := "4143ca673944cc185a92d2ce57dac664e9818a36c2ddf0abd227fcefa6032640", func := "backstay/backstaylaw14.PathTries", spec := "pathTries", apart := false }
def PathTriesSaid : Prop := pathTriesRow.holds Try.pinned (OpenSpec.ofChange pathTriesSpec)

/-- ITS FALSE NEIGHBOUR: 'it returns false'. Refute it at one input. -/
def pathTriesWrong : ChangeSpec := { name := "pathTries", fn := fun _ => fun
  | [d1, d2, d3] => { results := [.lit (.bool false)], args := [d1, d2, d3] }
  | _ => none }
def PathTriesWrongFalsely : Prop := pathTriesRow.holds Try.pinned (OpenSpec.ofChange pathTriesWrong)

/-- 'backstaylaw14.PathOrders': WHATEVER THE INPUT: true; the input reads as it did. -/
def pathOrdersSpec : ChangeSpec := { name := "pathOrders", fn := fun _ => fun
  | [d] => { results := [.lit (.bool true)], args := [d] }
  | _ => none }
def pathOrdersRow : OpenClaim := { program := "ythkjllphefnphaa", sum := "4143ca673944cc185a92d2ce57dac664e9818a36c2ddf0abd227fcefa6032640", func := "backstay/backstaylaw14.PathOrders", spec := "pathOrders", apart := false }
def PathOrdersSaid : Prop := pathOrdersRow.holds Try.pinned (OpenSpec.ofChange pathOrdersSpec)

/-- ITS FALSE NEIGHBOUR: 'it returns false'. Refute it at one input. -/
def pathOrdersWrong : ChangeSpec := { name := "pathOrders", fn := fun _ => fun
  | [d] => { results := [.lit (.bool false)], args := [d] }
  | _ => none }
def PathOrdersWrongFalsely : Prop := pathOrdersRow.holds Try.pinned (OpenSpec.ofChange pathOrdersWrong)

/- THE SECOND FORM. 'bulk': how many values and letters a reading holds, each counted each time it is reached (what is shared counts as often as it is met; a slice's spare places count too). A statement '..UptoSaid' is the law's where the arguments, and the package variables that the reading takes, are together of bulk at most 1048576: NARROWER than '..Said'. Prove '..Said' where nothing that the law and all that it calls make is longer than what came in: it says more and counts as full. Else prove '..UptoSaid'. A law counts once. -/
mutual
def uptoBulk {H : Type} : DataW H → Nat
  | .lit (.string bytes) => bytes.length + 1
  | .lit _ => 1
  | .nil => 1
  | .ptr d => uptoBulk d + 1
  | .slice elems spare => uptoBulkAll elems + uptoBulkAll spare + 1
  | .agg parts => uptoBulkAll parts + 1
  | .iface _ d => uptoBulk d + 1
  | .map entries => uptoBulkEntries entries + 1
  | .held _ => 1
def uptoBulkAll {H : Type} : List (DataW H) → Nat
  | [] => 0
  | d :: r => uptoBulk d + uptoBulkAll r
def uptoBulkEntries {H : Type} : List (Lit × DataW H) → Nat
  | [] => 0
  | x :: r => uptoBulkEntry x + uptoBulkEntries r
def uptoBulkEntry {H : Type} : Lit × DataW H → Nat
  | (.string bytes, d) => bytes.length + uptoBulk d + 1
  | (_, d) => uptoBulk d + 1
 end
def uptoSmall : (H : Type) → List (DataW H) → Bool := fun _ ds => decide (uptoBulkAll ds ≤ 1048576)
def OpenSpec.upto (s : _root_.Go.ChangeSpec) : _root_.Go.OpenSpec := { _root_.Go.OpenSpec.ofChange s with cond := some uptoSmall }

/-- 'backstaylaw14.PathPlays', WHERE WHAT IT READS IS OF BULK AT MOST 1048576: true; the input reads as it did. -/
def pathPlaysUptoRow : OpenClaim := { program := "ythkjllphefnphaa", sum := "4143ca673944cc185a92d2ce57dac664e9818a36c2ddf0abd227fcefa6032640", func := "backstay/backstaylaw14.PathPlays", spec := "pathPlays", apart := false, narrowed := true }
def PathPlaysUptoSaid : Prop := pathPlaysUptoRow.holds Try.pinned (OpenSpec.upto pathPlaysSpec)

/-- 'backstaylaw14.PathTries', WHERE WHAT IT READS IS OF BULK AT MOST 1048576: true; the input reads as it did. -/
def pathTriesUptoRow : OpenClaim := { program := "ythkjllphefnphaa", sum := "4143ca673944cc185a92d2ce57dac664e9818a36c2ddf0abd227fcefa6032640", func := "backstay/backstaylaw14.PathTries", spec := "pathTries", apart := false, narrowed := true }
def PathTriesUptoSaid : Prop := pathTriesUptoRow.holds Try.pinned (OpenSpec.upto pathTriesSpec)

/-- 'backstaylaw14.PathOrders', WHERE WHAT IT READS IS OF BULK AT MOST 1048576: true; the input reads as it did. -/
def pathOrdersUptoRow : OpenClaim := { program := "ythkjllphefnphaa", sum := "4143ca673944cc185a92d2ce57dac664e9818a36c2ddf0abd227fcefa6032640", func := "backstay/backstaylaw14.PathOrders", spec := "pathOrders", apart := false, narrowed := true }
def PathOrdersUptoSaid : Prop := pathOrdersUptoRow.holds Try.pinned (OpenSpec.upto pathOrdersSpec)

end Rows
end Go.Proofs.Ythkjllphefnphaa
