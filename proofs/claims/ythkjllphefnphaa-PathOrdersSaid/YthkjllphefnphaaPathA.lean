/- A list of acts, as its cells tell. -/
import Derived.Test.YthkjllphefnphaaOpen
import Derived.Test.YthkjllphefnphaaPathQ
import Derived.Deep.Slices
import Derived.WideShapes
namespace Go.Proofs.Ythkjllphefnphaa
open Go Go.RowKit Go.ChangeShapes Go.WideShapes Go.ChangeAt Go.Deep
structure Ac where
  kind : Int
  n : Nat
  ticks : Int
def acc (x : Ac) : List Value := [.int .i64 x.kind, .int .u32 x.n, .int .i64 x.ticks]
structure Acts (w : World) (a : Option Addr) (len cap : Nat) : Prop where
  hle : len ≤ cap
  htop : cap ≤ maxLen
  hcell : ∀ i, i < len → ∃ b off x, a = some ⟨b, off, none⟩ ∧ x.n < 4294967296 ∧ w.rangeAt b (off + i * 3) (acc x)
theorem Acts.kept {w w' : World} {a : Option Addr} {len cap : Nat} (h : Acts w a len cap) (hk : Kept [] w w') : Acts w' a len cap :=
  ⟨h.hle, h.htop, fun i hi => by
    obtain ⟨b, off, x, h1, h2, h3⟩ := h.hcell i hi
    exact ⟨b, off, x, h1, h2, hk.range h3 (by simp)⟩⟩
theorem Acts.nil (w : World) : Acts w none 0 0 := ⟨Nat.le_refl _, Nat.zero_le _, fun i hi => by omega⟩
theorem Acts.at {w : World} {a : Option Addr} {len cap : Nat} (h : Acts w a len cap) (i : Nat) (hi : i < len) : ∃ b off x, a = some ⟨b, off, none⟩ ∧ x.n < 4294967296 ∧ w.rangeAt b (off + i * 3) (acc x) := h.hcell i hi
theorem acts_of {H : Type} {enc : TypeId × Value → H} {w : World} {base : Nat} {held : Bool} {spare : Nat → Bool} {fuel : Nat} {v : Value} {x : DataW H × List MemPlace} (h : DataW.trod enc Try.prog w base spare held fuel 22 [v] = some x) : ∃ a n c, v = .slice a n c ∧ Acts w a n c := by
  rcases open_slice Try.underlying22 h with ⟨h1, _⟩ | ⟨a, len, cap, m, n, D, Pl, h1, hb, hl, hm, hmm, _, hall⟩
  · exact ⟨none, 0, 0, by simpa using h1, Acts.nil w⟩
  · have hle : len ≤ m := by rw [hmm]; split <;> omega
    have c3 : Try.prog.cellsOf 54 = 3 := by kernel_rfl
    have ci : Try.prog.cellsOf 3 = 1 := by kernel_rfl
    have cu : Try.prog.cellsOf 26 = 1 := by kernel_rfl
    refine ⟨some a, len, cap, by simpa using h1, hl, hm, fun i hi => ?_⟩
    have hel : ∀ i, i < len → ∃ x : Ac, x.n < 4294967296 ∧ w.cells? base (a.add (i * 3)) 3 = some (acc x) := by
      intro i hi
      obtain ⟨cs, h2, h3⟩ := hall i (by omega)
      rw [c3] at h2
      have hr : Rd enc Try.prog w base spare held 54 cs := ⟨n, _, h3⟩
      have hlen := hr.len Try.underlying54
      rw [c3] at hlen
      obtain ⟨k, e0, _⟩ := (hr.field Try.underlying54 0 _ rfl).int Try.underlying3
      obtain ⟨m, e1, w1⟩ := (hr.field Try.underlying54 1 _ rfl).int Try.underlying26
      obtain ⟨t, e2, _⟩ := (hr.field Try.underlying54 2 _ rfl).int Try.underlying3
      change (cs.drop 0).take (Try.prog.cellsOf 3) = _ at e0
      change (cs.drop 1).take (Try.prog.cellsOf 26) = _ at e1
      change (cs.drop 2).take (Try.prog.cellsOf 3) = _ at e2
      rw [ci] at e0 e2
      rw [cu] at e1
      have g0 : cs[0]? = some (.int .i64 k) := at_of e0
      have g1 : cs[1]? = some (.int .u32 m) := at_of e1
      have g2 : cs[2]? = some (.int .i64 t) := at_of e2
      have hm0 : 0 ≤ m ∧ m < 4294967296 := by
        simp [Lit.wf, IntKind.min, IntKind.max, IntKind.bits, IntKind.signed] at w1
        omega
      refine ⟨⟨k, m.toNat, t⟩, by simp only; omega, ?_⟩
      rw [h2]
      congr 1
      apply List.ext_getElem?
      intro j
      match j with
      | 0 => rw [g0]; rfl
      | 1 => rw [g1]; simp [acc, show ((m.toNat : Nat) : Int) = m by omega]
      | 2 => rw [g2]; rfl
      | j + 3 => rw [List.getElem?_eq_none (by omega)]; rfl
    have hs : a.spot = none := by
      obtain ⟨x, _, h3⟩ := hel 0 (by omega)
      obtain ⟨_, _, h4⟩ := World.cells?_some h3
      have h5 := World.cell?_spot (h4 0 (by omega))
      simpa [Addr.add] using h5
    obtain ⟨b, off, spot⟩ := a
    simp at hs
    subst hs
    obtain ⟨x, hx, h3⟩ := hel i hi
    obtain ⟨_, _, h4⟩ := World.cells?_some h3
    refine ⟨b, off, x, rfl, hx, fun j v hv => ?_⟩
    have hj : j < 3 := (List.getElem?_eq_some_iff.1 hv).1
    have h5 := h4 j hj
    rw [add_add] at h5
    have h6 : w.cell? ⟨b, off + i * 3 + j, none⟩ = (acc x)[j]? := by
      unfold Addr.add at h5
      split at h5
      · rename_i h0
        rw [← h5]
        congr 2
        omega
      · rw [← h5]
        congr 2
        show off + i * 3 + j = off + (i * 3 + j)
        omega
    rw [h6, hv]
end Go.Proofs.Ythkjllphefnphaa
