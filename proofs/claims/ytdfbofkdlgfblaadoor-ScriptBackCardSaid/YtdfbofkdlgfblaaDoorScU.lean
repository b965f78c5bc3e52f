/- An act that comes in, as its six numbers. -/
import Derived.Test.YtdfbofkdlgfblaaDoorScT
import Derived.Test.YtdfbofkdlgfblaaDoorOpen
import Derived.Test.YtdfbofkdlgfblaaDoorRows
import Derived.KernelRfl
namespace Go.Proofs.YtdfbofkdlgfblaaDoor
open Go Go.ChangeShapes Go.WideShapes Go.ChangeAt Go.RowKit Go.Deep
theorem act_of {H : Type} {enc : TypeId × Value → H} {w : World} {base : Nat} {sp : Nat → Bool} {held : Bool} {cs : List Value} (h : Rd enc Tryd.prog w base sp held 28 cs) :
    ∃ x : List Int, cs = ints x ∧ x.length = 6 ∧ ∀ n, n ∈ x → in64 n := by
  have hl := h.len Tryd.underlying28
  rw [show Tryd.prog.cellsOf 28 = 6 by kernel_rfl] at hl
  have ci : Tryd.prog.cellsOf 3 = 1 := by kernel_rfl
  obtain ⟨n0, e0, f0⟩ := (h.field Tryd.underlying28 0 _ rfl).int Tryd.underlying3
  obtain ⟨n1, e1, f1⟩ := (h.field Tryd.underlying28 1 _ rfl).int Tryd.underlying3
  obtain ⟨n2, e2, f2⟩ := (h.field Tryd.underlying28 2 _ rfl).int Tryd.underlying3
  obtain ⟨n3, e3, f3⟩ := (h.field Tryd.underlying28 3 _ rfl).int Tryd.underlying3
  obtain ⟨n4, e4, f4⟩ := (h.field Tryd.underlying28 4 _ rfl).int Tryd.underlying3
  obtain ⟨n5, e5, f5⟩ := (h.field Tryd.underlying28 5 _ rfl).int Tryd.underlying3
  have g0 : cs[0]? = some (.int .i64 n0) := at_of (k := 0) (by have h : (cs.drop 0).take (Tryd.prog.cellsOf 3) = [.int .i64 n0] := e0; rw [ci] at h; exact h)
  have g1 : cs[1]? = some (.int .i64 n1) := at_of (k := 1) (by have h : (cs.drop 1).take (Tryd.prog.cellsOf 3) = [.int .i64 n1] := e1; rw [ci] at h; exact h)
  have g2 : cs[2]? = some (.int .i64 n2) := at_of (k := 2) (by have h : (cs.drop 2).take (Tryd.prog.cellsOf 3) = [.int .i64 n2] := e2; rw [ci] at h; exact h)
  have g3 : cs[3]? = some (.int .i64 n3) := at_of (k := 3) (by have h : (cs.drop 3).take (Tryd.prog.cellsOf 3) = [.int .i64 n3] := e3; rw [ci] at h; exact h)
  have g4 : cs[4]? = some (.int .i64 n4) := at_of (k := 4) (by have h : (cs.drop 4).take (Tryd.prog.cellsOf 3) = [.int .i64 n4] := e4; rw [ci] at h; exact h)
  have g5 : cs[5]? = some (.int .i64 n5) := at_of (k := 5) (by have h : (cs.drop 5).take (Tryd.prog.cellsOf 3) = [.int .i64 n5] := e5; rw [ci] at h; exact h)
  refine ⟨[n0, n1, n2, n3, n4, n5], ?_, rfl, ?_⟩
  · clear e0 e1 e2 e3 e4 e5 h
    match cs, hl with
    | [a, b, c, d, e, f], _ =>
      simp at g0 g1 g2 g3 g4 g5
      subst g0 g1 g2 g3 g4 g5
      rfl
  · intro n hn
    simp only [List.mem_cons, List.not_mem_nil, or_false] at hn
    rcases hn with rfl | rfl | rfl | rfl | rfl | rfl
    · exact wf64 f0
    · exact wf64 f1
    · exact wf64 f2
    · exact wf64 f3
    · exact wf64 f4
    · exact wf64 f5
/-- The bound on what comes in, for a text that is the second of two. -/
theorem second_le {H : Type} {d : DataW H} {s : ByteArray} (hk : Rows.uptoSmall H [d, .lit (.string s.data.toList)] = true) : s.data.toList.length ≤ 1048576 := by
  have h : Rows.uptoBulkAll [d, DataW.lit (H := H) (.string s.data.toList)] ≤ 1048576 := of_decide_eq_true hk
  simp only [Rows.uptoBulkAll, Rows.uptoBulk] at h
  omega
end Go.Proofs.YtdfbofkdlgfblaaDoor
