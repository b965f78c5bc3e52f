/-
  No cell of these rows narrows 'for every input' (looked for: loops, veiled, ifaces, maps, wideKeys, modest, calm, conditions, laid).
  DERIVED. THE GIVEN ROWS OF THIS SEAT. 5 by the template 'for every input the law returns true; each argument reads behind the call as it read before'; 0 by the template 'total and deterministic' (their statements: YtjgnngnknhkpmaaTotals.lean).
  GIVEN WITH THE SEED: the statements are not yours to turn. If you find one false, say at which input.
  Laid BY PROGRAM, IN A SANDBOX (cutbox-rows.mjs): the forced cells as the released guide's own fill.sh prints them over the translation aa2b3531b3ca23da… (all of the seat's roots in one cut). By AI agents, Wed Nov 11 2026. No macro, syntax, notation, axiom, sorry.
-/
import Derived.Test.YtjgnngnknhkpmaaChecked
import GoSem.Claim
import GoSem.ClaimJoined
import GoSem.ClaimMapViews
import Derived.JoinedTies
import Derived.KernelRfl
namespace Go.Proofs.Ytjgnngnknhkpmaa
/- THE CELL 'sum', in the pinned program and in every row, IS THE sha256 OF THE DUMP (.gsa) THAT YtjgnngnknhkpmaaProg.lean LOADS. Nothing in Lean hashes anything: it is a label: what it is worth is what the hold of that sum in a sandbox is worth. -/
noncomputable def Try.pinned : Pinned := { name := "ytjgnngnknhkpmaa", sum := "aa2b3531b3ca23daa6bf5e1a8fc434311580f8ba6a0d74c58e64d04da5a53059", checked := Try.checked }
namespace Rows
def none {H : Type} : Left H := { results := [], args := [] }

/-- 'backstaylaw06.RsEncodes': WHATEVER THE INPUT: true; the input reads as it did. -/
def rsEncodesSpec : ChangeSpec := { name := "rsEncodes", fn := fun _ => fun
  | [d1, d2, d3] => { results := [.lit (.bool true)], args := [d1, d2, d3] }
  | _ => none }
def rsEncodesRow : OpenClaim := { program := "ytjgnngnknhkpmaa", sum := "aa2b3531b3ca23daa6bf5e1a8fc434311580f8ba6a0d74c58e64d04da5a53059", func := "backstay/backstaylaw06.RsEncodes", spec := "rsEncodes", apart := false }
def RsEncodesSaid : Prop := rsEncodesRow.holds Try.pinned (OpenSpec.ofChange rsEncodesSpec)

/-- ITS FALSE NEIGHBOUR: 'it returns false'. Refute it at one input. -/
def rsEncodesWrong : ChangeSpec := { name := "rsEncodes", fn := fun _ => fun
  | [d1, d2, d3] => { results := [.lit (.bool false)], args := [d1, d2, d3] }
  | _ => none }
def RsEncodesWrongFalsely : Prop := rsEncodesRow.holds Try.pinned (OpenSpec.ofChange rsEncodesWrong)

/-- 'backstaylaw06.RsMakes': WHATEVER THE INPUT: true; the input reads as it did. -/
def rsMakesSpec : ChangeSpec := { name := "rsMakes", fn := fun _ => fun
  | [d1, d2] => { results := [.lit (.bool true)], args := [d1, d2] }
  | _ => none }
def rsMakesRow : OpenClaim := { program := "ytjgnngnknhkpmaa", sum := "aa2b3531b3ca23daa6bf5e1a8fc434311580f8ba6a0d74c58e64d04da5a53059", func := "backstay/backstaylaw06.RsMakes", spec := "rsMakes", apart := false }
def RsMakesSaid : Prop := rsMakesRow.holds Try.pinned (OpenSpec.ofChange rsMakesSpec)

/-- ITS FALSE NEIGHBOUR: 'it returns false'. Refute it at one input. -/
def rsMakesWrong : ChangeSpec := { name := "rsMakes", fn := fun _ => fun
  | [d1, d2] => { results := [.lit (.bool false)], args := [d1, d2] }
  | _ => none }
def RsMakesWrongFalsely : Prop := rsMakesRow.holds Try.pinned (OpenSpec.ofChange rsMakesWrong)

/-- 'backstaylaw06.RsDecodes': WHATEVER THE INPUT: true; the input reads as it did. -/
def rsDecodesSpec : ChangeSpec := { name := "rsDecodes", fn := fun _ => fun
  | [d1, d2, d3] => { results := [.lit (.bool true)], args := [d1, d2, d3] }
  | _ => none }
def rsDecodesRow : OpenClaim := { program := "ytjgnngnknhkpmaa", sum := "aa2b3531b3ca23daa6bf5e1a8fc434311580f8ba6a0d74c58e64d04da5a53059", func := "backstay/backstaylaw06.RsDecodes", spec := "rsDecodes", unfollowed := true, recurses := true, apart := false }
def RsDecodesSaid : Prop := rsDecodesRow.holds Try.pinned (OpenSpec.ofChange rsDecodesSpec)

/-- ITS FALSE NEIGHBOUR: 'it returns false'. Refute it at one input. -/
def rsDecodesWrong : ChangeSpec := { name := "rsDecodes", fn := fun _ => fun
  | [d1, d2, d3] => { results := [.lit (.bool false)], args := [d1, d2, d3] }
  | _ => none }
def RsDecodesWrongFalsely : Prop := rsDecodesRow.holds Try.pinned (OpenSpec.ofChange rsDecodesWrong)

/-- 'backstaylaw06.RsAny': WHATEVER THE INPUT: true; the input reads as it did. -/
def rsAnySpec : ChangeSpec := { name := "rsAny", fn := fun _ => fun
  | [d] => { results := [.lit (.bool true)], args := [d] }
  | _ => none }
def rsAnyRow : OpenClaim := { program := "ytjgnngnknhkpmaa", sum := "aa2b3531b3ca23daa6bf5e1a8fc434311580f8ba6a0d74c58e64d04da5a53059", func := "backstay/backstaylaw06.RsAny", spec := "rsAny", unfollowed := true, recurses := true, apart := false }
def RsAnySaid : Prop := rsAnyRow.holds Try.pinned (OpenSpec.ofChange rsAnySpec)

/-- ITS FALSE NEIGHBOUR: 'it returns false'. Refute it at one input. -/
def rsAnyWrong : ChangeSpec := { name := "rsAny", fn := fun _ => fun
  | [d] => { results := [.lit (.bool false)], args := [d] }
  | _ => none }
def RsAnyWrongFalsely : Prop := rsAnyRow.holds Try.pinned (OpenSpec.ofChange rsAnyWrong)

/-- 'backstaylaw06.RsSpoilt': WHATEVER THE INPUT: true; the input reads as it did. -/
def rsSpoiltSpec : ChangeSpec := { name := "rsSpoilt", fn := fun _ => fun
  | [d1, d2, d3] => { results := [.lit (.bool true)], args := [d1, d2, d3] }
  | _ => none }
def rsSpoiltRow : OpenClaim := { program := "ytjgnngnknhkpmaa", sum := "aa2b3531b3ca23daa6bf5e1a8fc434311580f8ba6a0d74c58e64d04da5a53059", func := "backstay/backstaylaw06.RsSpoilt", spec := "rsSpoilt", unfollowed := true, recurses := true, apart := false }
def RsSpoiltSaid : Prop := rsSpoiltRow.holds Try.pinned (OpenSpec.ofChange rsSpoiltSpec)

/-- ITS FALSE NEIGHBOUR: 'it returns false'. Refute it at one input. -/
def rsSpoiltWrong : ChangeSpec := { name := "rsSpoilt", fn := fun _ => fun
  | [d1, d2, d3] => { results := [.lit (.bool false)], args := [d1, d2, d3] }
  | _ => none }
def RsSpoiltWrongFalsely : Prop := rsSpoiltRow.holds Try.pinned (OpenSpec.ofChange rsSpoiltWrong)

/- THE SECOND FORM. 'bulk': how many values and letters a reading holds, each counted each time it is reached (what is shared counts as often as it is met; a slice's spare places count too). A statement '..UptoSaid' is the law's where the arguments, and the package variables that the reading takes, are together of bulk at most 1048576: NARROWER than '..Said'. Prove '..Said' where nothing that the law and all that it calls make is longer than what came in: it says more and counts as full. Else prove '..UptoSaid'. A law counts once. -/
mutual
def uptoBulk {H : Type} : DataW H → Nat
  | .lit (.string bytes) => bytes.length + 1
  | .lit _ => 1
  | .nil => 1
  | .ptr d => uptoBulk d + 1
  | .slice elems spare => uptoBulkAll elems + uptoBulkAll spare + 1
  | .agg parts => uptoBulkAll parts + 1
  | .iface _ d => uptoBulk d + 1
  | .map entries => uptoBulkEntries entries + 1
  | .held _ => 1
def uptoBulkAll {H : Type} : List (DataW H) → Nat
  | [] => 0
  | d :: r => uptoBulk d + uptoBulkAll r
def uptoBulkEntries {H : Type} : List (Lit × DataW H) → Nat
  | [] => 0
  | x :: r => uptoBulkEntry x + uptoBulkEntries r
def uptoBulkEntry {H : Type} : Lit × DataW H → Nat
  | (.string bytes, d) => bytes.length + uptoBulk d + 1
  | (_, d) => uptoBulk d + 1
 end
def uptoSmall : (H : Type) → List (DataW H) → Bool := fun _ ds => decide (uptoBulkAll ds ≤ 1048576)
def OpenSpec.upto (s : _root_.Go.ChangeSpec) : _root_.Go.OpenSpec := { _root_.Go.OpenSpec.ofChange s with cond := some uptoSmall }

/-- 'backstaylaw06.RsEncodes', WHERE WHAT IT READS IS OF BULK AT MOST 1048576: true; the input reads as it did. -/
def rsEncodesUptoRow : OpenClaim := { program := "ytjgnngnknhkpmaa", sum := "aa2b3531b3ca23daa6bf5e1a8fc434311580f8ba6a0d74c58e64d04da5a53059", func := "backstay/backstaylaw06.RsEncodes", spec := "rsEncodes", apart := false, narrowed := true }
def RsEncodesUptoSaid : Prop := rsEncodesUptoRow.holds Try.pinned (OpenSpec.upto rsEncodesSpec)

/-- 'backstaylaw06.RsMakes', WHERE WHAT IT READS IS OF BULK AT MOST 1048576: true; the input reads as it did. -/
def rsMakesUptoRow : OpenClaim := { program := "ytjgnngnknhkpmaa", sum := "aa2b3531b3ca23daa6bf5e1a8fc434311580f8ba6a0d74c58e64d04da5a53059", func := "backstay/backstaylaw06.RsMakes", spec := "rsMakes", apart := false, narrowed := true }
def RsMakesUptoSaid : Prop := rsMakesUptoRow.holds Try.pinned (OpenSpec.upto rsMakesSpec)

/-- 'backstaylaw06.RsDecodes', WHERE WHAT IT READS IS OF BULK AT MOST 1048576: true; the input reads as it did. -/
def rsDecodesUptoRow : OpenClaim := { program := "ytjgnngnknhkpmaa", sum := "aa2b3531b3ca23daa6bf5e1a8fc434311580f8ba6a0d74c58e64d04da5a53059", func := "backstay/backstaylaw06.RsDecodes", spec := "rsDecodes", unfollowed := true, recurses := true, apart := false, narrowed := true }
def RsDecodesUptoSaid : Prop := rsDecodesUptoRow.holds Try.pinned (OpenSpec.upto rsDecodesSpec)

/-- 'backstaylaw06.RsAny', WHERE WHAT IT READS IS OF BULK AT MOST 1048576: true; the input reads as it did. -/
def rsAnyUptoRow : OpenClaim := { program := "ytjgnngnknhkpmaa", sum := "aa2b3531b3ca23daa6bf5e1a8fc434311580f8ba6a0d74c58e64d04da5a53059", func := "backstay/backstaylaw06.RsAny", spec := "rsAny", unfollowed := true, recurses := true, apart := false, narrowed := true }
def RsAnyUptoSaid : Prop := rsAnyUptoRow.holds Try.pinned (OpenSpec.upto rsAnySpec)

/-- 'backstaylaw06.RsSpoilt', WHERE WHAT IT READS IS OF BULK AT MOST 1048576: true; the input reads as it did. -/
def rsSpoiltUptoRow : OpenClaim := { program := "ytjgnngnknhkpmaa", sum := "aa2b3531b3ca23daa6bf5e1a8fc434311580f8ba6a0d74c58e64d04da5a53059", func := "backstay/backstaylaw06.RsSpoilt", spec := "rsSpoilt", unfollowed := true, recurses := true, apart := false, narrowed := true }
def RsSpoiltUptoSaid : Prop := rsSpoiltUptoRow.holds Try.pinned (OpenSpec.upto rsSpoiltSpec)

end Rows
end Go.Proofs.Ytjgnngnknhkpmaa
