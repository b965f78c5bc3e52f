/- A list of things of one type that comes in: what its cells are. -/
import Derived.Test.YtgdofgckjkmhjaaOpen
import Derived.Deep.Slices
import Derived.WideShapes
namespace Go.Proofs.Ytgdofgckjkmhjaa
open Go Go.ChangeShapes Go.WideShapes Go.ChangeAt Go.RowKit Go.Deep
theorem rows_of {α : Type} [Inhabited α] {H : Type} {enc : TypeId × Value → H} {P : Program} {w : World} {base : Nat} {held : Bool} {spare : Nat → Bool} {fuel : Nat} {v : Value} {x : DataW H × List MemPlace} {t e : TypeId} (k : Nat) (hk : 0 < k) (hc : P.cellsOf e = k) (ht : P.underlying t = some (.slice e))
    (f : α → List Value) (p : α → Prop) (hf : ∀ y, (f y).length = k) (hel : ∀ es, Rd enc P w base spare held e es → ∃ y, p y ∧ es = f y)
    (h : DataW.trod enc P w base spare held fuel t [v] = some x) :
    ∃ a c, ∃ xs : List α, v = .slice a xs.length c ∧ (∀ (i : Nat) y, xs[i]? = some y → ∃ g o, a = some ⟨g, o, none⟩ ∧ g < w.heap.size ∧ ∀ j u, (f y)[j]? = some u → w.cell? ⟨g, o + i * k + j, none⟩ = some u) ∧ ∀ y ∈ xs, p y := by
  rcases open_slice ht h with ⟨h1, _⟩ | ⟨a, len, cap, m, n, D, Pl, h1, hb, hl, hm, hmm, _, hall⟩
  · exact ⟨none, 0, [], by simpa using h1, fun i x hx => by simp at hx, fun x hx => by simp at hx⟩
  · have hle : len ≤ m := by rw [hmm]; split <;> omega
    have hel2 : ∀ i, i < len → ∃ y : α, p y ∧ w.cells? base (a.add (i * k)) k = some (f y) := by
      intro i hi
      obtain ⟨cs, h2, h3⟩ := hall i (by omega)
      rw [hc] at h2
      obtain ⟨y, hy1, hy2⟩ := hel cs ⟨n, _, h3⟩
      exact ⟨y, hy1, by rw [h2, hy2]⟩
    obtain ⟨g, hg⟩ := choose_lt hel2
    refine ⟨some a, cap, tab len g, by rw [tab_len]; simpa using h1, fun i y hy => ?_, fun y hy => ?_⟩
    · have hi : i < len := by
        have := (List.getElem?_eq_some_iff.1 hy).1
        rwa [tab_len] at this
      rw [tab_get hi] at hy
      simp only [Option.some.injEq] at hy
      subst hy
      have get0 : ∀ y, ∃ u, (f y)[0]? = some u := fun y => ⟨_, List.getElem?_eq_getElem (by rw [hf]; exact hk)⟩
      have hs : a.spot = none := by
        obtain ⟨h2, h3⟩ := hg 0 (by omega)
        obtain ⟨_, _, h4⟩ := World.cells?_some h3
        have h5 := h4 0 hk
        obtain ⟨u, hu⟩ := get0 (g 0)
        rw [hu] at h5
        have h6 := World.cell?_spot h5
        simpa [Addr.add] using h6
      obtain ⟨b, off, spot⟩ := a
      simp at hs
      subst hs
      obtain ⟨h2, h3⟩ := hg i hi
      obtain ⟨_, _, h4⟩ := World.cells?_some h3
      have key : ∀ j v, (f (g i))[j]? = some v → w.cell? ⟨b, off + i * k + j, none⟩ = some v := by
        intro j v hv
        have hj : j < k := by
          have := (List.getElem?_eq_some_iff.1 hv).1
          rw [hf] at this
          exact this
        have h5 := h4 j hj
        rw [add_add] at h5
        rw [hv] at h5
        unfold Addr.add at h5
        split at h5
        · rename_i h0
          rw [← h5]
          congr 2
          omega
        · rw [← h5]
          congr 2
          show off + i * k + j = off + (i * k + j)
          omega
      refine ⟨b, off, rfl, ?_, key⟩
      obtain ⟨u, hu⟩ := get0 (g i)
      exact World.block_lt_of_cell? _ _ (key 0 u hu)
    · obtain ⟨i, hi⟩ := List.mem_iff_getElem?.1 hy
      have hil : i < len := by
        have := (List.getElem?_eq_some_iff.1 hi).1
        rwa [tab_len] at this
      rw [tab_get hil] at hi
      simp only [Option.some.injEq] at hi
      rw [← hi]
      exact (hg i hil).1
end Go.Proofs.Ytgdofgckjkmhjaa
