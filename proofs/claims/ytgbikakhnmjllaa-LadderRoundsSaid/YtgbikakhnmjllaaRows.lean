/-
  No cell of these rows narrows 'for every input' (looked for: loops, veiled, ifaces, maps, wideKeys, modest, calm, conditions, laid).
  DERIVED. THE GIVEN ROWS OF THIS SEAT. 4 by the template 'for every input the law returns true; each argument reads behind the call as it read before'; 0 by the template 'total and deterministic' (their statements: YtgbikakhnmjllaaTotals.lean).
  GIVEN WITH THE SEED: the statements are not yours to turn. If you find one false, say at which input.
  Laid BY PROGRAM, IN A SANDBOX (cutbox-rows.mjs): the forced cells as the released guide's own fill.sh prints them over the translation 8d8f8b2194509c68… (all of the seat's roots in one cut). By AI agents, Wed Nov 11 2026. No macro, syntax, notation, axiom, sorry.
-/
import Derived.Test.YtgbikakhnmjllaaChecked
import GoSem.Claim
import GoSem.ClaimJoined
import GoSem.ClaimMapViews
import Derived.JoinedTies
import Derived.KernelRfl
namespace Go.Proofs.Ytgbikakhnmjllaa
/- THE CELL 'sum', in the pinned program and in every row, IS THE sha256 OF THE DUMP (.gsa) THAT YtgbikakhnmjllaaProg.lean LOADS. Nothing in Lean hashes anything: it is a label: what it is worth is what the hold of that sum in a sandbox is worth. -/
noncomputable def Try.pinned : Pinned := { name := "ytgbikakhnmjllaa", sum := "8d8f8b2194509c683d65b21eff3e550b58662afb3bb7ceafc29a8801904c0b7b", checked := Try.checked }
namespace Rows
def none {H : Type} : Left H := { results := [], args := [] }

/-- 'backstaylaw38.LadderChances': WHATEVER THE INPUT: true; the input reads as it did. -/
def ladderChancesSpec : ChangeSpec := { name := "ladderChances", fn := fun _ => fun
  | [d1, d2, d3] => { results := [.lit (.bool true)], args := [d1, d2, d3] }
  | _ => none }
def ladderChancesRow : OpenClaim := { program := "ytgbikakhnmjllaa", sum := "8d8f8b2194509c683d65b21eff3e550b58662afb3bb7ceafc29a8801904c0b7b", func := "backstay/backstaylaw38.LadderChances", spec := "ladderChances", apart := false }
def LadderChancesSaid : Prop := ladderChancesRow.holds Try.pinned (OpenSpec.ofChange ladderChancesSpec)

/-- ITS FALSE NEIGHBOUR: 'it returns false'. Refute it at one input. -/
def ladderChancesWrong : ChangeSpec := { name := "ladderChances", fn := fun _ => fun
  | [d1, d2, d3] => { results := [.lit (.bool false)], args := [d1, d2, d3] }
  | _ => none }
def LadderChancesWrongFalsely : Prop := ladderChancesRow.holds Try.pinned (OpenSpec.ofChange ladderChancesWrong)

/-- 'backstaylaw38.LadderEnds': WHATEVER THE INPUT: true; the input reads as it did. -/
def ladderEndsSpec : ChangeSpec := { name := "ladderEnds", fn := fun _ => fun
  | [d] => { results := [.lit (.bool true)], args := [d] }
  | _ => none }
def ladderEndsRow : OpenClaim := { program := "ytgbikakhnmjllaa", sum := "8d8f8b2194509c683d65b21eff3e550b58662afb3bb7ceafc29a8801904c0b7b", func := "backstay/backstaylaw38.LadderEnds", spec := "ladderEnds", apart := false }
def LadderEndsSaid : Prop := ladderEndsRow.holds Try.pinned (OpenSpec.ofChange ladderEndsSpec)

/-- ITS FALSE NEIGHBOUR: 'it returns false'. Refute it at one input. -/
def ladderEndsWrong : ChangeSpec := { name := "ladderEnds", fn := fun _ => fun
  | [d] => { results := [.lit (.bool false)], args := [d] }
  | _ => none }
def LadderEndsWrongFalsely : Prop := ladderEndsRow.holds Try.pinned (OpenSpec.ofChange ladderEndsWrong)

/-- 'backstaylaw38.LadderRounds': WHATEVER THE INPUT: true; the input reads as it did. -/
def ladderRoundsSpec : ChangeSpec := { name := "ladderRounds", fn := fun _ => fun
  | [d] => { results := [.lit (.bool true)], args := [d] }
  | _ => none }
def ladderRoundsRow : OpenClaim := { program := "ytgbikakhnmjllaa", sum := "8d8f8b2194509c683d65b21eff3e550b58662afb3bb7ceafc29a8801904c0b7b", func := "backstay/backstaylaw38.LadderRounds", spec := "ladderRounds", unfollowed := true, recurses := true, apart := false }
def LadderRoundsSaid : Prop := ladderRoundsRow.holds Try.pinned (OpenSpec.ofChange ladderRoundsSpec)

/-- ITS FALSE NEIGHBOUR: 'it returns false'. Refute it at one input. -/
def ladderRoundsWrong : ChangeSpec := { name := "ladderRounds", fn := fun _ => fun
  | [d] => { results := [.lit (.bool false)], args := [d] }
  | _ => none }
def LadderRoundsWrongFalsely : Prop := ladderRoundsRow.holds Try.pinned (OpenSpec.ofChange ladderRoundsWrong)

/-- 'backstaylaw38.LadderShares': WHATEVER THE INPUT: true; the input reads as it did. -/
def ladderSharesSpec : ChangeSpec := { name := "ladderShares", fn := fun _ => fun
  | [d] => { results := [.lit (.bool true)], args := [d] }
  | _ => none }
def ladderSharesRow : OpenClaim := { program := "ytgbikakhnmjllaa", sum := "8d8f8b2194509c683d65b21eff3e550b58662afb3bb7ceafc29a8801904c0b7b", func := "backstay/backstaylaw38.LadderShares", spec := "ladderShares", apart := false }
def LadderSharesSaid : Prop := ladderSharesRow.holds Try.pinned (OpenSpec.ofChange ladderSharesSpec)

/-- ITS FALSE NEIGHBOUR: 'it returns false'. Refute it at one input. -/
def ladderSharesWrong : ChangeSpec := { name := "ladderShares", fn := fun _ => fun
  | [d] => { results := [.lit (.bool false)], args := [d] }
  | _ => none }
def LadderSharesWrongFalsely : Prop := ladderSharesRow.holds Try.pinned (OpenSpec.ofChange ladderSharesWrong)

/- THE SECOND FORM. 'bulk': how many values and letters a reading holds, each counted each time it is reached (what is shared counts as often as it is met; a slice's spare places count too). A statement '..UptoSaid' is the law's where the arguments, and the package variables that the reading takes, are together of bulk at most 1048576: NARROWER than '..Said'. Prove '..Said' where nothing that the law and all that it calls make is longer than what came in: it says more and counts as full. Else prove '..UptoSaid'. A law counts once. -/
mutual
def uptoBulk {H : Type} : DataW H → Nat
  | .lit (.string bytes) => bytes.length + 1
  | .lit _ => 1
  | .nil => 1
  | .ptr d => uptoBulk d + 1
  | .slice elems spare => uptoBulkAll elems + uptoBulkAll spare + 1
  | .agg parts => uptoBulkAll parts + 1
  | .iface _ d => uptoBulk d + 1
  | .map entries => uptoBulkEntries entries + 1
  | .held _ => 1
def uptoBulkAll {H : Type} : List (DataW H) → Nat
  | [] => 0
  | d :: r => uptoBulk d + uptoBulkAll r
def uptoBulkEntries {H : Type} : List (Lit × DataW H) → Nat
  | [] => 0
  | x :: r => uptoBulkEntry x + uptoBulkEntries r
def uptoBulkEntry {H : Type} : Lit × DataW H → Nat
  | (.string bytes, d) => bytes.length + uptoBulk d + 1
  | (_, d) => uptoBulk d + 1
 end
def uptoSmall : (H : Type) → List (DataW H) → Bool := fun _ ds => decide (uptoBulkAll ds ≤ 1048576)
def OpenSpec.upto (s : _root_.Go.ChangeSpec) : _root_.Go.OpenSpec := { _root_.Go.OpenSpec.ofChange s with cond := some uptoSmall }

/-- 'backstaylaw38.LadderChances', WHERE WHAT IT READS IS OF BULK AT MOST 1048576: true; the input reads as it did. -/
def ladderChancesUptoRow : OpenClaim := { program := "ytgbikakhnmjllaa", sum := "8d8f8b2194509c683d65b21eff3e550b58662afb3bb7ceafc29a8801904c0b7b", func := "backstay/backstaylaw38.LadderChances", spec := "ladderChances", apart := false, narrowed := true }
def LadderChancesUptoSaid : Prop := ladderChancesUptoRow.holds Try.pinned (OpenSpec.upto ladderChancesSpec)

/-- 'backstaylaw38.LadderEnds', WHERE WHAT IT READS IS OF BULK AT MOST 1048576: true; the input reads as it did. -/
def ladderEndsUptoRow : OpenClaim := { program := "ytgbikakhnmjllaa", sum := "8d8f8b2194509c683d65b21eff3e550b58662afb3bb7ceafc29a8801904c0b7b", func := "backstay/backstaylaw38.LadderEnds", spec := "ladderEnds", apart := false, narrowed := true }
def LadderEndsUptoSaid : Prop := ladderEndsUptoRow.holds Try.pinned (OpenSpec.upto ladderEndsSpec)

/-- 'backstaylaw38.LadderRounds', WHERE WHAT IT READS IS OF BULK AT MOST 1048576: true; the input reads as it did. -/
def ladderRoundsUptoRow : OpenClaim := { program := "ytgbikakhnmjllaa", sum := "8d8f8b2194509c683d65b21eff3e550b58662afb3bb7ceafc29a8801904c0b7b", func := "backstay/backstaylaw38.LadderRounds", spec := "ladderRounds", unfollowed := true, recurses := true, apart := false, narrowed := true }
def LadderRoundsUptoSaid : Prop := ladderRoundsUptoRow.holds Try.pinned (OpenSpec.upto ladderRoundsSpec)

/-- 'backstaylaw38.LadderShares', WHERE WHAT IT READS IS OF BULK AT MOST 1048576: true; the input reads as it did. -/
def ladderSharesUptoRow : OpenClaim := { program := "ytgbikakhnmjllaa", sum := "8d8f8b2194509c683d65b21eff3e550b58662afb3bb7ceafc29a8801904c0b7b", func := "backstay/backstaylaw38.LadderShares", spec := "ladderShares", apart := false, narrowed := true }
def LadderSharesUptoSaid : Prop := ladderSharesUptoRow.holds Try.pinned (OpenSpec.upto ladderSharesSpec)

end Rows
end Go.Proofs.Ytgbikakhnmjllaa
