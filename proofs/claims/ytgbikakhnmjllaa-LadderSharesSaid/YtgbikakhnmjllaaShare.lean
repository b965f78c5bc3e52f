/- Each one's part of all marks. -/
import Derived.Test.YtgbikakhnmjllaaDiv
import Derived.Test.YtgbikakhnmjllaaWideX
import Derived.Test.YtgbikakhnmjllaaLadA
import Derived.Test.YtgbikakhnmjllaaOpen
import Derived.Test.YtgbikakhnmjllaaApg
import Derived.Deep.Slices
import Derived.Deep.AppendLies
import Derived.Laws.OwnMore
import Derived.WideShapes
namespace Go.Proofs.Ytgbikakhnmjllaa
open Go Go.RowKit Go.ChangeShapes Go.WideShapes Go.ChangeAt Go.Deep
/-- Players: what their marks are. -/
structure Plys (w : World) (a : Option Addr) (len cap : Nat) (ms : List Int) : Prop where
  hlen : ms.length = len
  hle : len ≤ cap
  htop : cap ≤ maxLen
  hfit : ∀ i, i < len → Fits (ms.getD i 0)
  hcell : ∀ i, i < len → ∃ b off cs, a = some ⟨b, off, none⟩ ∧ cs.length = 5 ∧ cs[1]? = some (.int .i64 (ms.getD i 0)) ∧ (∀ v ∈ cs, v.oneCell' = true) ∧ w.rangeAt b (off + i * 5) cs
theorem Plys.kept {w w' : World} {a : Option Addr} {len cap : Nat} {ms : List Int} (h : Plys w a len cap ms) (hk : Kept [] w w') : Plys w' a len cap ms :=
  ⟨h.hlen, h.hle, h.htop, h.hfit, fun i hi => by
    obtain ⟨b, off, cs, h1, h2, h3, h4, h5⟩ := h.hcell i hi
    exact ⟨b, off, cs, h1, h2, h3, h4, hk.range h5 (by simp)⟩⟩
theorem plys_of {H : Type} {enc : TypeId × Value → H} {w : World} {base : Nat} {held : Bool} {spare : Nat → Bool} {fuel : Nat} {v : Value} {x : DataW H × List MemPlace} (h : DataW.trod enc Try.prog w base spare held fuel 55 [v] = some x) : ∃ a n c ms, v = .slice a n c ∧ Plys w a n c ms := by
  rcases open_slice Try.underlying55 h with ⟨h1, _⟩ | ⟨a, len, cap, m, n, D, Pl, h1, hb, hl, hm, hmm, _, hall⟩
  · exact ⟨none, 0, 0, [], by simpa using h1, rfl, Nat.le_refl _, Nat.zero_le _, fun i hi => by omega, fun i hi => by omega⟩
  · have hle : len ≤ m := by rw [hmm]; split <;> omega
    have c5 : Try.prog.cellsOf 60 = 5 := by kernel_rfl
    have ci : Try.prog.cellsOf 3 = 1 := by kernel_rfl
    have cs : Try.prog.cellsOf 9 = 1 := by kernel_rfl
    have hel : ∀ i, i < len → ∃ x : Int × List Value, Fits x.1 ∧ x.2.length = 5 ∧ x.2[1]? = some (.int .i64 x.1) ∧ (∀ v ∈ x.2, v.oneCell' = true) ∧ w.cells? base (a.add (i * 5)) 5 = some x.2 := by
      intro i hi
      obtain ⟨es, h2, h3⟩ := hall i (by omega)
      rw [c5] at h2
      have hr : Rd enc Try.prog w base spare held 60 es := ⟨n, _, h3⟩
      have hlen := hr.len Try.underlying60
      rw [c5] at hlen
      obtain ⟨f0, y0, r0⟩ := hr.field Try.underlying60 0 _ rfl
      obtain ⟨s, e0, _⟩ := DataW.trod_string Try.underlying9 r0
      obtain ⟨n1, e1, w1⟩ := (hr.field Try.underlying60 1 _ rfl).int Try.underlying3
      obtain ⟨n2, e2, _⟩ := (hr.field Try.underlying60 2 _ rfl).int Try.underlying3
      obtain ⟨n3, e3, _⟩ := (hr.field Try.underlying60 3 _ rfl).int Try.underlying3
      obtain ⟨n4, e4, _⟩ := (hr.field Try.underlying60 4 _ rfl).int Try.underlying3
      change (es.drop 0).take (Try.prog.cellsOf 9) = _ at e0
      change (es.drop 1).take (Try.prog.cellsOf 3) = _ at e1
      change (es.drop 2).take (Try.prog.cellsOf 3) = _ at e2
      change (es.drop 3).take (Try.prog.cellsOf 3) = _ at e3
      change (es.drop 4).take (Try.prog.cellsOf 3) = _ at e4
      rw [ci] at e1 e2 e3 e4
      rw [cs] at e0
      have g0 : es[0]? = some (.string s) := at_of e0
      have g1 : es[1]? = some (.int .i64 n1) := at_of e1
      have g2 : es[2]? = some (.int .i64 n2) := at_of e2
      have g3 : es[3]? = some (.int .i64 n3) := at_of e3
      have g4 : es[4]? = some (.int .i64 n4) := at_of e4
      have hf : Fits n1 := by
        simp [Lit.wf, IntKind.min, IntKind.max, IntKind.bits, IntKind.signed] at w1
        unfold Fits
        omega
      refine ⟨(n1, es), hf, hlen, g1, fun v hv => ?_, h2⟩
      obtain ⟨j, hj, rfl⟩ := List.getElem_of_mem hv
      have hj5 : j < 5 := by simp only at hj; omega
      have hg := List.getElem?_eq_getElem hj
      rcases (show j = 0 ∨ j = 1 ∨ j = 2 ∨ j = 3 ∨ j = 4 by omega) with rfl | rfl | rfl | rfl | rfl
      · have e := g0.symm.trans hg; simp only [Option.some.injEq] at e; rw [← e]; rfl
      · have e := g1.symm.trans hg; simp only [Option.some.injEq] at e; rw [← e]; rfl
      · have e := g2.symm.trans hg; simp only [Option.some.injEq] at e; rw [← e]; rfl
      · have e := g3.symm.trans hg; simp only [Option.some.injEq] at e; rw [← e]; rfl
      · have e := g4.symm.trans hg; simp only [Option.some.injEq] at e; rw [← e]; rfl
    obtain ⟨X, hX⟩ := choose_lt (α := Int × List Value) (p := fun i x => Fits x.1 ∧ x.2.length = 5 ∧ x.2[1]? = some (.int .i64 x.1) ∧ (∀ v ∈ x.2, v.oneCell' = true) ∧ w.cells? base (a.add (i * 5)) 5 = some x.2) hel
    have hget : ∀ i, i < len → (tab len fun i => (X i).1).getD i 0 = (X i).1 := fun i hi => by
      rw [List.getD, tab_get hi]; rfl
    refine ⟨some a, len, cap, tab len fun i => (X i).1, by simpa using h1, tab_len _ _, hl, hm, fun i hi => by rw [hget i hi]; exact (hX i hi).1, fun i hi => ?_⟩
    have hs : a.spot = none := by
      obtain ⟨_, _, _, _, h3⟩ := hX 0 (by omega)
      obtain ⟨_, _, h4⟩ := World.cells?_some h3
      have h4 := h4 0 (by omega)
      rw [List.getElem?_eq_getElem (by have := (hX 0 (by omega)).2.1; omega)] at h4
      have h5 := World.cell?_spot h4
      simpa [Addr.add] using h5
    obtain ⟨b, off, spot⟩ := a
    simp at hs
    subst hs
    obtain ⟨h2, h3, h4, h5, h6⟩ := hX i hi
    obtain ⟨_, _, h7⟩ := World.cells?_some h6
    refine ⟨b, off, (X i).2, rfl, h3, by rw [hget i hi]; exact h4, h5, fun j v hv => ?_⟩
    have hj : j < 5 := by have := (List.getElem?_eq_some_iff.1 hv).1; omega
    have h8 := h7 j hj
    rw [add_add] at h8
    have h9 : w.cell? ⟨b, off + i * 5 + j, none⟩ = (X i).2[j]? := by
      unfold Addr.add at h8
      split at h8
      · rename_i h0
        rw [← h8]
        congr 2
        omega
      · rw [← h8]
        congr 2
        show off + i * 5 + j = off + (i * 5 + j)
        omega
    rw [h9, hv]
/-- The sum of the first marks. -/
def smM (ms : List Int) : Nat → Int
  | 0 => 0
  | k + 1 => hold (smM ms k + max 0 (ms.getD k 0))
theorem smM_bd (ms : List Int) (k : Nat) : 0 ≤ smM ms k ∧ smM ms k ≤ 9223372036854775807 := by
  induction k with
  | zero => simp [smM]
  | succ k ih => unfold smM hold; omega
theorem smM_step (ms : List Int) (k : Nat) (h : Fits (ms.getD k 0)) : smM ms k ≤ smM ms (k + 1) ∧ max 0 (ms.getD k 0) ≤ smM ms (k + 1) := by
  have h1 := smM_bd ms k
  have h2 := h.1
  have h3 := h.2
  rw [smM]
  unfold hold
  omega
theorem smM_mono (ms : List Int) (n : Nat) (h : ∀ i, i < n → Fits (ms.getD i 0)) (k : Nat) (hk : k ≤ n) : smM ms k ≤ smM ms n := by
  induction n with
  | zero => obtain rfl : k = 0 := by omega
            exact Int.le_refl _
  | succ n ih =>
    rcases Nat.lt_or_ge k (n + 1) with g | g
    · exact Int.le_trans (ih (fun i hi => h i (by omega)) (by omega)) (smM_step ms n (h n (by omega))).1
    · obtain rfl : k = n + 1 := by omega
      exact Int.le_refl _
theorem smM_ge (ms : List Int) (n : Nat) (h : ∀ i, i < n → Fits (ms.getD i 0)) (i : Nat) (hi : i < n) : max 0 (ms.getD i 0) ≤ smM ms n :=
  Int.le_trans (smM_step ms i (h i hi)).2 (smM_mono ms n h (i + 1) (by omega))
/-- One's part. -/
def prt (ms : List Int) (s : Int) (i : Nat) : Int := max 0 (ms.getD i 0) * 65536 / s
theorem prt_ok (x s : Int) (hx : 0 ≤ x) (hxs : x ≤ s) (hs : 0 < s) : 0 ≤ x * 65536 / s ∧ x * 65536 / s ≤ 65536 ∧ x * 65536 / s * s ≤ x * 65536 ∧ x * 65536 < (x * 65536 / s + 1) * s := by
  refine ⟨Int.ediv_nonneg (by omega) (by omega), Int.ediv_le_of_le_mul hs (by rw [Int.mul_comm]; exact Int.mul_le_mul_of_nonneg_left hxs (by omega)), Int.ediv_mul_le _ (by omega), ?_⟩
  exact Int.lt_ediv_add_one_mul_self _ hs
end Go.Proofs.Ytgbikakhnmjllaa
