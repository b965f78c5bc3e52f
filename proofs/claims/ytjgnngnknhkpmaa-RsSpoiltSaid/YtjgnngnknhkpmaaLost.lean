/- What a reading of numbers, and of what was lost, tells. -/
import Derived.Test.YtjgnngnknhkpmaaRsN
namespace Go.Proofs.Ytjgnngnknhkpmaa
open Go Go.ChangeShapes Go.WideShapes Go.ChangeAt Go.RowKit Go.Deep
theorem ix_of {H : Type} {enc : TypeId × Value → H} {w : World} {base : Nat} {held : Bool} {spare : Nat → Bool} {fuel : Nat} {v : Value} {x : DataW H × List MemPlace} (h : DataW.trod enc Try.prog w base spare held fuel 43 [v] = some x) :
    ∃ a c, ∃ l : List Int, v = .slice a l.length c ∧ l.length ≤ c ∧ c ≤ maxLen ∧ Ix w a l := by
  rcases open_slice1 Try.underlying43 (by kernel_rfl) h with ⟨h1, _⟩ | ⟨a, len, cap, m, n, V, D, Pl, h1, hb, hl, hm, hmm, _, hall⟩
  · exact ⟨none, 0, [], by simpa using h1, by simp, Nat.zero_le _, fun i hi => absurd hi (by simp)⟩
  · have hle : len ≤ m := by rw [hmm]; split <;> omega
    have hv : ∀ i, i < len → ∃ y : Int, w.cell? (a.add i) = some (.int .i64 y) := fun i hi => by
      obtain ⟨h2, h3⟩ := hall i (by omega)
      obtain ⟨q, h4, _, h5⟩ := DataW.trod_int Try.underlying3 h3
      simp only [List.cons.injEq, and_true] at h4
      rw [h4] at h2
      exact ⟨q, h2⟩
    obtain ⟨l, h6, h7⟩ := list_of (0 : Int) (fun i y => w.cell? (a.add i) = some (.int .i64 y)) len hv
    refine ⟨some a, cap, l, by rw [h6]; simpa using h1, by omega, hm, fun i hi => ?_⟩
    have h8 := h7 i (by omega)
    have hs : a.spot = none := by
      have h5 := World.cell?_spot (h7 0 (by omega))
      simpa [Addr.add] using h5
    obtain ⟨b, off, spot⟩ := a
    simp at hs
    subst hs
    rw [Addr.add_mid] at h8
    exact ⟨b, off, rfl, h8⟩
theorem lost_of {H : Type} {enc : TypeId × Value → H} {w : World} {base : Nat} {spare : Nat → Bool} {held : Bool} {cs : List Value} (h : Rd enc Try.prog w base spare held 57 cs) :
    ∃ k m t : Int, ∃ a2 c2, ∃ ls : List (List Nat), ∃ a3 c3, ∃ ks : List Int, cs = [.int .i64 k, .int .i64 m, .slice a2 ls.length c2, .slice a3 ks.length c3, .int .i64 t] ∧ ls.length ≤ c2 ∧ c2 ≤ maxLen ∧ Cs w a2 ls ∧ (∀ y ∈ ls, Oct y) ∧ ks.length ≤ c3 ∧ c3 ≤ maxLen ∧ Ix w a3 ks := by
  have hl := h.len Try.underlying57
  rw [show Try.prog.cellsOf 57 = 5 by kernel_rfl] at hl
  have ci : Try.prog.cellsOf 3 = 1 := by kernel_rfl
  have cb : Try.prog.cellsOf 22 = 1 := by kernel_rfl
  have ck : Try.prog.cellsOf 43 = 1 := by kernel_rfl
  obtain ⟨n0, e0, _⟩ := (h.field Try.underlying57 0 _ rfl).int Try.underlying3
  obtain ⟨n1, e1, _⟩ := (h.field Try.underlying57 1 _ rfl).int Try.underlying3
  obtain ⟨f2, x2, e2⟩ := h.field Try.underlying57 2 _ rfl
  obtain ⟨f3, x3, e3⟩ := h.field Try.underlying57 3 _ rfl
  obtain ⟨n4, e4, _⟩ := (h.field Try.underlying57 4 _ rfl).int Try.underlying3
  change (cs.drop 0).take (Try.prog.cellsOf 3) = _ at e0
  change (cs.drop 1).take (Try.prog.cellsOf 3) = _ at e1
  change DataW.trod enc Try.prog w base spare held f2 22 ((cs.drop 2).take (Try.prog.cellsOf 22)) = _ at e2
  change DataW.trod enc Try.prog w base spare held f3 43 ((cs.drop 3).take (Try.prog.cellsOf 43)) = _ at e3
  change (cs.drop 4).take (Try.prog.cellsOf 3) = _ at e4
  rw [ci] at e0 e1 e4
  rw [cb] at e2
  rw [ck] at e3
  match cs, hl, e0, e1, e2, e3, e4 with
  | [u0, u1, u2, u3, u4], _, e0, e1, e2, e3, e4 =>
    simp only [List.drop_zero, List.drop_succ_cons, List.take_succ_cons, List.take_zero, List.cons.injEq, and_true] at e0 e1 e2 e3 e4
    obtain ⟨a2, c2, ls, h5, h6, h7, h8, h9⟩ := byts_of (v := u2) e2
    obtain ⟨a3, c3, ks, g5, g6, g7, g8⟩ := ix_of (v := u3) e3
    exact ⟨n0, n1, n4, a2, c2, ls, a3, c3, ks, by rw [e0, e1, e4, h5, g5], h6, h7, h8, h9, g6, g7, g8⟩
end Go.Proofs.Ytjgnngnknhkpmaa
