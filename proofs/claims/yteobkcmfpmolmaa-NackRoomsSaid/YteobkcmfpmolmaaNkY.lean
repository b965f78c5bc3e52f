/- nack: the law's own: its calls, its blocks. -/
import Derived.Test.YteobkcmfpmolmaaNkX
import Derived.Test.YteobkcmfpmolmaaOpen
import Derived.Deep.Slices
import Derived.WideShapes
namespace Go.Proofs.Yteobkcmfpmolmaa
open Go Go.RowKit Go.Deep Go.OpenShut Go.ChangeShapes Go.WideShapes Go.ChangeAt
abbrev op4 (k m t u : Int) : List Value := [.int .i64 k, .int .u32 m, .int .i64 t, .int .i64 u]
/-- A list of calls. -/
structure Opn (w : World) (a : Option Addr) (len cap : Nat) : Prop where
  hle : len ≤ cap
  hcell : ∀ i, i < len → ∃ b off x y z u, a = some ⟨b, off, none⟩ ∧ w.rangeAt b (off + i * 4) (op4 x y z u) ∧ (Lit.int .u32 y).wf = true
theorem Opn.kept {w w' : World} {a : Option Addr} {len cap : Nat} (h : Opn w a len cap) (hk : Kept [] w w') : Opn w' a len cap :=
  ⟨h.hle, fun i hi => by
    obtain ⟨b, off, x, y, z, u, h1, h2, h3⟩ := h.hcell i hi
    exact ⟨b, off, x, y, z, u, h1, hk.range h2 (by simp), h3⟩⟩
theorem Opn.nil (w : World) : Opn w none 0 0 := ⟨Nat.le_refl _, fun i hi => by omega⟩
set_option maxRecDepth 100000 in
theorem opn_of {H : Type} {enc : TypeId × Value → H} {w : World} {base : Nat} {held : Bool} {spare : Nat → Bool} {fuel : Nat} {v : Value} {x : DataW H × List MemPlace} (h : DataW.trod enc Try.prog w base spare held fuel 22 [v] = some x) : ∃ a n c, v = .slice a n c ∧ Opn w a n c := by
  rcases open_slice Try.underlying22 h with ⟨h1, _⟩ | ⟨a, len, cap, m, n, D, Pl, h1, hb, hl, hm, hmm, _, hall⟩
  · exact ⟨none, 0, 0, by simpa using h1, Opn.nil w⟩
  · have hle : len ≤ m := by rw [hmm]; split <;> omega
    have c3 : Try.prog.cellsOf 33 = 4 := by kernel_rfl
    have ci : Try.prog.cellsOf 3 = 1 := by kernel_rfl
    have ci6 : Try.prog.cellsOf 31 = 1 := by kernel_rfl
    refine ⟨some a, len, cap, by simpa using h1, hl, fun i hi => ?_⟩
    have hel : ∀ i, i < len → ∃ k m t u : Int, w.cells? base (a.add (i * 4)) 4 = some (op4 k m t u) ∧ (Lit.int .u32 m).wf = true := by
      intro i hi
      obtain ⟨cs, h2, h3⟩ := hall i (by omega)
      rw [c3] at h2
      have hr : Rd enc Try.prog w base spare held 33 cs := ⟨n, _, h3⟩
      have hlen := hr.len Try.underlying33
      rw [c3] at hlen
      obtain ⟨k, e0, _⟩ := (hr.field Try.underlying33 0 _ rfl).int Try.underlying3
      obtain ⟨m, e1, hmw⟩ := (hr.field Try.underlying33 1 _ rfl).int Try.underlying31
      obtain ⟨t, e2, _⟩ := (hr.field Try.underlying33 2 _ rfl).int Try.underlying3
      obtain ⟨u, e3, _⟩ := (hr.field Try.underlying33 3 _ rfl).int Try.underlying3
      change (cs.drop 0).take (Try.prog.cellsOf 3) = _ at e0
      change (cs.drop 1).take (Try.prog.cellsOf 31) = _ at e1
      change (cs.drop 2).take (Try.prog.cellsOf 3) = _ at e2
      change (cs.drop 3).take (Try.prog.cellsOf 3) = _ at e3
      rw [ci] at e0 e2 e3
      rw [ci6] at e1
      have g0 : cs[0]? = some (.int .i64 k) := at_of e0
      have g1 : cs[1]? = some (.int .u32 m) := at_of e1
      have g2 : cs[2]? = some (.int .i64 t) := at_of e2
      have g3 : cs[3]? = some (.int .i64 u) := at_of e3
      refine ⟨k, m, t, u, ?_, hmw⟩
      rw [h2]
      congr 1
      apply List.ext_getElem?
      intro j
      match j with
      | 0 => rw [g0]; rfl
      | 1 => rw [g1]; rfl
      | 2 => rw [g2]; rfl
      | 3 => rw [g3]; rfl
      | j + 4 => rw [List.getElem?_eq_none (by omega)]; rfl
    have hs : a.spot = none := by
      obtain ⟨_, _, _, _, h3, _⟩ := hel 0 (by omega)
      obtain ⟨_, _, h4⟩ := World.cells?_some h3
      have h5 := World.cell?_spot (h4 0 (by omega))
      simpa [Addr.add] using h5
    obtain ⟨b, off, spot⟩ := a
    simp at hs
    subst hs
    obtain ⟨k, m, t, u, h3, hmw⟩ := hel i hi
    obtain ⟨_, _, h4⟩ := World.cells?_some h3
    refine ⟨b, off, k, m, t, u, rfl, fun j v hv => ?_, hmw⟩
    have hj : j < 4 := (List.getElem?_eq_some_iff.1 hv).1
    have h5 := h4 j hj
    rw [Addr.add_mid, Addr.add_mid] at h5
    rw [h5, hv]
theorem infoOp4 : (Try.prog.info? 33).map (·.size) = some 4 := by kernel_rfl
theorem zeroOp4 (w : World) : (zeroValue 33).run Try.prog w = .ok (.agg #[.int .i64 0, .int .u32 0, .int .i64 0, .int .i64 0]) w := by kernel_rfl
end Go.Proofs.Yteobkcmfpmolmaa
