/- The law's list of calls, out of a reading of the argument. -/
import Derived.Test.YthpdoekeooedfaaPrioPl
import Derived.Deep.Slices
import Derived.WideShapes
namespace Go.Proofs.Ythpdoekeooedfaa
open Go Go.RowKit Go.ChangeShapes Go.WideShapes Go.ChangeAt Go.Deep
theorem Ops.nil (w : World) : Ops w none 0 0 := ⟨Nat.le_refl _, fun i hi => by omega⟩
theorem ops_of {H : Type} {enc : TypeId × Value → H} {w : World} {base : Nat} {held : Bool} {spare : Nat → Bool} {fuel : Nat} {v : Value} {x : DataW H × List MemPlace} (h : DataW.trod enc Try.prog w base spare held fuel 38 [v] = some x) : ∃ a n c, v = .slice a n c ∧ Ops w a n c := by
  rcases open_slice Try.underlying38 h with ⟨h1, _⟩ | ⟨a, len, cap, m, n, D, Pl, h1, hb, hl, hm, hmm, _, hall⟩
  · exact ⟨none, 0, 0, by simpa using h1, Ops.nil w⟩
  · have hle : len ≤ m := by rw [hmm]; split <;> omega
    have c3 : Try.prog.cellsOf 63 = 3 := by kernel_rfl
    have ci : Try.prog.cellsOf 3 = 1 := by kernel_rfl
    refine ⟨some a, len, cap, by simpa using h1, hl, fun i hi => ?_⟩
    have hel : ∀ i, i < len → ∃ k m t : Int, w.cells? base (a.add (i * 3)) 3 = some (oc3 k m t) := by
      intro i hi
      obtain ⟨cs, h2, h3⟩ := hall i (by omega)
      rw [c3] at h2
      have hr : Rd enc Try.prog w base spare held 63 cs := ⟨n, _, h3⟩
      have hlen := hr.len Try.underlying63
      rw [c3] at hlen
      obtain ⟨k, e0, _⟩ := (hr.field Try.underlying63 0 _ rfl).int Try.underlying3
      obtain ⟨m, e1, _⟩ := (hr.field Try.underlying63 1 _ rfl).int Try.underlying3
      obtain ⟨t, e2, _⟩ := (hr.field Try.underlying63 2 _ rfl).int Try.underlying3
      change (cs.drop 0).take (Try.prog.cellsOf 3) = _ at e0
      change (cs.drop 1).take (Try.prog.cellsOf 3) = _ at e1
      change (cs.drop 2).take (Try.prog.cellsOf 3) = _ at e2
      rw [ci] at e0 e1 e2
      have g0 : cs[0]? = some (.int .i64 k) := at_of e0
      have g1 : cs[1]? = some (.int .i64 m) := at_of e1
      have g2 : cs[2]? = some (.int .i64 t) := at_of e2
      refine ⟨k, m, t, ?_⟩
      rw [h2]
      congr 1
      apply List.ext_getElem?
      intro j
      match j with
      | 0 => rw [g0]; rfl
      | 1 => rw [g1]; rfl
      | 2 => rw [g2]; rfl
      | j + 3 => rw [List.getElem?_eq_none (by omega)]; rfl
    have hs : a.spot = none := by
      obtain ⟨_, _, _, h3⟩ := hel 0 (by omega)
      obtain ⟨_, _, h4⟩ := World.cells?_some h3
      have h5 := World.cell?_spot (h4 0 (by omega))
      simpa [Addr.add] using h5
    obtain ⟨b, off, spot⟩ := a
    simp at hs
    subst hs
    obtain ⟨k, m, t, h3⟩ := hel i hi
    obtain ⟨_, _, h4⟩ := World.cells?_some h3
    refine ⟨b, off, k, m, t, rfl, fun j v hv => ?_⟩
    have hj : j < 3 := (List.getElem?_eq_some_iff.1 hv).1
    have h5 := h4 j hj
    rw [add_add] at h5
    have h6 : w.cell? ⟨b, off + i * 3 + j, none⟩ = (oc3 k m t)[j]? := by
      unfold Addr.add at h5
      split at h5
      · rename_i h0
        rw [← h5]
        congr 2
        omega
      · rw [← h5]
        congr 2
        show off + i * 3 + j = off + (i * 3 + j)
        omega
    rw [h6, hv]
end Go.Proofs.Ythpdoekeooedfaa
