import Derived.Test.YthkjllphefnphaaPathQ
namespace Go.Proofs.Ythkjllphefnphaa
/-- The gap between tries is none or ten ticks at least. -/
def GapOk (p : Pa) : Prop := p.gap = 0 ∨ 10 ≤ p.gap
theorem gap0 : GapOk pa0 := .inl rfl
theorem gap_tick (p : Pa) (h : GapOk p) : GapOk (tickP p).1 := by
  unfold tickP
  split
  · exact .inl rfl
  · split
    · exact .inr (by simp)
    · split
      · exact h
      · unfold GapOk at *; simp only; omega
theorem gap_heard (p : Pa) (n : Nat) : GapOk (heardP p n).1 := by
  unfold heardP
  split <;> exact .inl rfl
theorem gap_trip (p : Pa) (s : St) (h : GapOk p) : GapOk { p with s := s } := h
theorem gap_next (p : Pa) (n : Nat) (h : GapOk p) : GapOk { p with next := n } := h
/-- So many ticks went by without a word; 'last' is when it was tried last. -/
structure Tr (q0 : Int) (k t : Int) (q : Pa) (i : Nat) (last : Int) : Prop where
  quiet : q.quiet = q0 + i
  gap : GapOk q
  ok : PaOk q k (t + i)
  lst : last = -1 ∨ (0 ≤ last ∧ last < i ∧ 5 ≤ q.gap ∧ 20 ≤ q.quiet ∧ 1 ≤ q.probe ∧ 5 ≤ q.probe + (i - 1 - last) ∧ q.probe + (i - 1 - last) ≤ 80)
theorem Tr.zero (p : Pa) (k t : Int) (h : PaOk p k t) (g : GapOk p) : Tr p.quiet k t p 0 (-1) := ⟨by omega, g, by simpa using h, .inl rfl⟩
theorem Tr.no {q0 k t : Int} {q : Pa} {i : Nat} {last : Int} (h : Tr q0 k t q i last) (hf : (tickP q).2 = false) : Tr q0 k t (tickP q).1 (i + 1) last ∧ (0 ≤ last → (i : Int) - last < 80) := by
  have hok := tick_ok q k _ h.ok
  have hg := gap_tick q h.gap
  have hok' : PaOk (tickP q).1 k (t + ((i + 1 : Nat) : Int)) := hok.mono (by omega) (by omega)
  have hq := h.quiet
  have hl := h.lst
  refine ⟨⟨?_, hg, hok', ?_⟩, ?_⟩
  · unfold tickP
    split
    · simp only; omega
    · split
      · simp only; omega
      · split
        · simp only; omega
        · simp only; omega
  · rcases hl with hl | ⟨h1, h2, h3, h4, h5, h6, h7⟩
    · exact .inl hl
    · right
      unfold tickP at hf ⊢
      rw [if_neg (by omega), if_neg (by omega)] at hf ⊢
      split at hf
      · rename_i hp
        rw [if_pos hp]
        simp only
        omega
      · simp at hf
  · intro h0
    rcases hl with hl | ⟨h1, h2, h3, h4, h5, h6, h7⟩
    · omega
    · unfold tickP at hf
      rw [if_neg (by omega), if_neg (by omega)] at hf
      split at hf
      · omega
      · simp at hf
theorem Tr.yes {q0 k t : Int} {q : Pa} {i : Nat} {last : Int} (h : Tr q0 k t q i last) (hf : (tickP q).2 = true) : Tr q0 k t (tickP q).1 (i + 1) i ∧ 20 ≤ q0 + i + 1 ∧ (0 ≤ last → 5 ≤ (i : Int) - last) := by
  have hok := tick_ok q k _ h.ok
  have hg := gap_tick q h.gap
  have hok' : PaOk (tickP q).1 k (t + ((i + 1 : Nat) : Int)) := hok.mono (by omega) (by omega)
  have hq := h.quiet
  have hl := h.lst
  have hgap := h.gap
  unfold GapOk at hgap
  have hg80 := h.ok.gap.2
  have h20 : 20 ≤ q.quiet + 1 := by
    unfold tickP at hf
    split at hf
    · simp at hf
    · omega
  refine ⟨⟨?_, hg, hok', ?_⟩, by omega, ?_⟩
  · unfold tickP
    split
    · simp only; omega
    · split
      · simp only; omega
      · split
        · simp only; omega
        · simp only; omega
  · right
    unfold tickP at hf ⊢
    rw [if_neg (by omega)] at hf ⊢
    split at hf
    · rename_i hp
      rw [if_pos hp]
      simp only
      omega
    · rename_i hp
      rw [if_neg hp]
      split at hf
      · simp at hf
      · rename_i hr
        rw [if_neg hr]
        simp only
        omega
  · intro h0
    rcases hl with hl | ⟨h1, h2, h3, h4, h5, h6, h7⟩
    · omega
    · unfold tickP at hf
      rw [if_neg (by omega), if_neg (by omega)] at hf
      split at hf
      · simp at hf
      · omega
theorem heard_quiet (p : Pa) (n : Nat) : (heardP p n).1.quiet = 0 := by unfold heardP; split <;> rfl
theorem tick_0 (p : Pa) (h : p.quiet = 0) : (tickP p).2 = false := by unfold tickP; rw [if_pos (by omega)]
end Go.Proofs.Ythkjllphefnphaa
