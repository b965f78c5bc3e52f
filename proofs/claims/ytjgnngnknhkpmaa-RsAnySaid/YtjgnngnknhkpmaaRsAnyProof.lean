/-
  RsAny: of what was encoded any shards that are kept, as many as there were data or more, in any order, are decoded to just the data; fewer are not.
-/
import Derived.Test.YtjgnngnknhkpmaaRows
import Derived.Test.YtjgnngnknhkpmaaRsN
import Derived.Test.YtjgnngnknhkpmaaLost
import Derived.WalkKit
import Derived.Below
import Derived.ProofKit
import Derived.OpenShut
import Derived.ShutString
import Derived.ChangeOld
import Derived.Deep.Slices
namespace Go.Proofs.Ytjgnngnknhkpmaa.rsAny
open Go.ChangeShapes Go.WideShapes Go.ChangeAt Go.RowKit
open Go.ChangeMaps (open_string shut_string)
set_option linter.unusedVariables false

theorem own : ownKnob Try.prog.godebug = none := by kernel_rfl
theorem laidOut : laidOutB Try.prog = true := by kernel_rfl

set_option maxRecDepth 100000 in
set_option maxHeartbeats 400000 in
theorem lifted (os : Os) (started : os.Started) (H : Type) (enc : TypeId × Value → H) :
    ReturnsInHanded {} Try.checked os 6 .any (Rows.rsAnySpec.pre6 enc Try.prog Try.f6 Rows.rsAnyRow.domain false) (Rows.rsAnySpec.post enc Try.prog Try.f6 false true false false) := by
  refine returnsInHanded_of_change (C := Try.checked) own started (by kernel_rfl) Try.func6
    (ChangeSpec.witness6 (enc := enc) (C := Try.checked) false ⟨#[], #[.agg #[.int .i64 0, .int .i64 0, .slice none 0 0, .slice none 0 0, .int .i64 0]], []⟩ 8 (by kernel_rfl) (by kernel_rfl) (by kernel_rfl) (by kernel_rfl)) ?_
  intro W base args ds gs before hval0 hW hcnd _
  have hval : ∀ (j : Nat) t v, Try.f6.params[j]? = some t → args[j]? = some v → Value.okWide Try.prog W .any base t v := hval0
  have hW' := hW
  obtain ⟨p, q, hA0, hV, rfl, hfz, hnd⟩ := hW
  have hA : DataW.TrodAll enc Try.prog W 0 (fun _ => true) true Try.f6.params.toList args.toList ds p := hA0
  rw [Try.params6] at hA hval
  obtain ⟨v0, vs0, d0, ds0, p0, q0, hargs, rfl, rfl, h0, r0⟩ := trodAll_cons hA
  obtain ⟨rfl, rfl, rfl⟩ := trodAll_nil r0
  obtain rfl : args = #[v0] := by cases args; simp_all
  obtain ⟨rfl, rfl⟩ := trodVars_none hV
  have o0 := hval 0 57 v0 rfl rfl
  have k0 := h0
  have lt0 : ∀ x ∈ p0, x.block < W.heap.size := by obtain ⟨m, hm⟩ := k0; exact DataW.trod_lt m _ _ _ hm
  have GOAL : Calls Try.prog 6 #[v0] W fun e W' => e = .returned (.bool true) ∧ Kept [] W W' := by
    obtain ⟨cs, rfl, hsz⟩ := okWide_struct Try.underlying57 o0
    obtain ⟨fuel, hf⟩ := h0
    obtain ⟨k, m, t, a2, c2, ls, a3, c3, ks, hcs, h1, h2, h3, h4, h5, h6, h7⟩ := lost_of (cs := cs.toList) ⟨fuel, _, by simpa [Value.cells] using hf⟩
    have hcs' : cs = #[.int .i64 k, .int .i64 m, .slice a2 ls.length c2, .slice a3 ks.length c3, .int .i64 t] := by rw [← Array.toArray_toList (xs := cs), hcs]
    subst hcs'
    exact law_any k m t c2 c3 a2 a3 ls ks W h3 h4 h7 (Nat.le_trans h1 h2) h1 (Nat.le_trans h5 h6)
  clear hA0 hval0
  refine GOAL.mono fun e W' ⟨he, hk⟩ => ?_
  have bel := hk.toBelow
  subst he
  exact ⟨_, rfl, _, _, _, [], _, [], hW', trodAll_mk1 (shut_bool Try.underlying4 _), (trodAll_cons_mk (Below.trod laidOut (by kernel_rfl) (of_decide_eq_true (by kernel_rfl)) k0 bel lt0) trodAll_mk0), rfl, bel.frame _, fun h => by cases h⟩

theorem over : Rows.rsAnyRow.holds Try.pinned (OpenSpec.ofChange Rows.rsAnySpec) :=
  OpenClaim.holds_of_wide 6 Try.f6 rfl rfl rfl rfl rfl rfl rfl ⟨rfl, rfl, rfl, rfl, rfl⟩ rfl rfl rfl rfl rfl (by kernel_rfl) Try.func6 (by kernel_rfl)
    (of_decide_eq_true (by kernel_rfl)) (by unfold Func.isWrapper; first | (rw [if_pos (by decide +kernel)]; kernel_rfl) | (rw [if_neg (by decide +kernel)]; exact ⟨rfl, rfl⟩))
    (fun os started H enc _ => lifted os started H enc)

theorem proved : Rows.RsAnySaid := over
#print axioms proved
end Go.Proofs.Ytjgnngnknhkpmaa.rsAny
