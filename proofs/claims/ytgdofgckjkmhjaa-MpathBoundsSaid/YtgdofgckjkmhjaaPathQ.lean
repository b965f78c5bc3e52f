import Derived.Test.YtgdofgckjkmhjaaPathP
import Derived.Test.YtgdofgckjkmhjaaPathN
namespace Go.Proofs.Ytgdofgckjkmhjaa
/-- A way. -/
structure Pa where
  s : St
  seen : Sn
  quiet : Int
  probe : Int
  gap : Int
  next : Nat
def pa0 : Pa := ⟨st0, sn0, 0, 0, 0, 0⟩
def stateI (q : Int) : Int := if 60 ≤ q then 2 else if 20 ≤ q then 1 else 0
/-- Time goes by. -/
def tickP (p : Pa) : Pa × Bool :=
  if p.quiet + 1 < 20 then ({ p with quiet := p.quiet + 1, probe := 0, gap := 0 }, false)
  else if p.gap = 0 then ({ p with quiet := p.quiet + 1, probe := 5, gap := 10 }, true)
  else if 1 < p.probe then ({ p with quiet := p.quiet + 1, probe := p.probe - 1 }, false)
  else ({ p with quiet := p.quiet + 1, probe := p.gap, gap := min (2 * p.gap) 80 }, true)
def markK (s : St) : Nat → St
  | 0 => s
  | k + 1 => markS (markK s k) true
def newLost (s : Sn) (n : Nat) : Nat := if s.any then (min ((takeN s n).1.lost - s.lost) 64).toNat else 0
/-- A number comes. -/
def heardP (p : Pa) (n : Nat) : Pa × Int :=
  if (takeN p.seen n).2 = 0 then ({ p with s := markS (markK p.s (newLost p.seen n)) false, seen := (takeN p.seen n).1, quiet := 0, probe := 0, gap := 0 }, 0)
  else ({ p with seen := (takeN p.seen n).1, quiet := 0, probe := 0, gap := 0 }, (takeN p.seen n).2)
def nextU (n : Nat) : Nat := (n + 1) % 4294967296
structure PaOk (p : Pa) (k : Int) (t : Int) : Prop where
  s : StOk p.s (65 * k)
  seen : SnOk p.seen k
  quiet : 0 ≤ p.quiet ∧ p.quiet ≤ t
  probe : 0 ≤ p.probe ∧ p.probe ≤ 80
  gap : 0 ≤ p.gap ∧ p.gap ≤ 80
  next : p.next < 4294967296
theorem pa0_ok : PaOk pa0 0 0 := ⟨st0_ok, sn0_ok, by simp [pa0], by simp [pa0], by simp [pa0], by simp [pa0]⟩
theorem StOk.mono {s : St} {k l : Int} (h : StOk s k) (hl : k ≤ l) : StOk s l := by
  obtain ⟨h1, h2, h3, h4, h5⟩ := h
  exact ⟨h1, h2, h3, by omega, by omega⟩
theorem SnOk.mono {s : Sn} {k l : Int} (h : SnOk s k) (hl : k ≤ l) : SnOk s l := by
  obtain ⟨h1, h2, h3, h4, h5⟩ := h
  exact ⟨h1, h2, by omega, by omega, by omega⟩
theorem PaOk.mono {p : Pa} {k l t u : Int} (h : PaOk p k t) (hl : k ≤ l) (hu : t ≤ u) : PaOk p l u := by
  obtain ⟨h1, h2, h3, h4, h5, h6⟩ := h
  exact ⟨h1.mono (by omega), h2.mono hl, by omega, h4, h5, h6⟩
theorem markK_ok (s : St) (j : Nat) (k : Int) (h : StOk s k) : StOk (markK s j) (k + j) := by
  induction j with
  | zero => simpa [markK] using h
  | succ j ih =>
    have := mark_ok (markK s j) true _ ih
    exact this.mono (by omega)
theorem tick_ok (p : Pa) (k t : Int) (h : PaOk p k t) : PaOk (tickP p).1 k (t + 1) := by
  obtain ⟨h1, h2, h3, h4, h5, h6⟩ := h
  unfold tickP
  split
  · exact ⟨h1, h2, by simp only; omega, by simp only; omega, by simp only; omega, h6⟩
  · split
    · exact ⟨h1, h2, by simp only; omega, by simp only; omega, by simp only; omega, h6⟩
    · split
      · exact ⟨h1, h2, by simp only; omega, by simp only; omega, by simp only; omega, h6⟩
      · exact ⟨h1, h2, by simp only; omega, by simp only; omega, by simp only; omega, h6⟩
theorem newLost_le (s : Sn) (n : Nat) : newLost s n ≤ 64 := by unfold newLost; split <;> omega
theorem heard_ok (p : Pa) (n : Nat) (k t : Int) (h : PaOk p k t) (hn : n < 4294967296) (hk : 0 ≤ k) (ht : 0 ≤ t) : PaOk (heardP p n).1 (k + 1) t := by
  obtain ⟨h1, h2, h3, h4, h5, h6⟩ := h
  have hs := take_ok p.seen n k h2 hn hk
  have hl := newLost_le p.seen n
  unfold heardP
  split
  · exact ⟨(mark_ok _ _ _ (markK_ok p.s (newLost p.seen n) _ h1)).mono (by omega), hs, by simp only; omega, by simp only; omega, by simp only; omega, h6⟩
  · exact ⟨h1.mono (by omega), hs, by simp only; omega, by simp only; omega, by simp only; omega, h6⟩
theorem tripP_ok (p : Pa) (x : Int) (k t : Int) (h : PaOk p k t) : PaOk { p with s := tripS p.s x } (k + 1) t := by
  obtain ⟨h1, h2, h3, h4, h5, h6⟩ := h
  exact ⟨(trip_ok p.s x _ h1).mono (by omega), h2.mono (by omega), h3, h4, h5, h6⟩
theorem next_ok (p : Pa) (k t : Int) (h : PaOk p k t) : PaOk { p with next := nextU p.next } k t := by
  obtain ⟨h1, h2, h3, h4, h5, h6⟩ := h
  exact ⟨h1, h2, h3, h4, h5, Nat.mod_lt _ (by omega)⟩
theorem lost_le (s : Sn) (n : Nat) : s.any = true → s.lost ≤ (takeN s n).1.lost := by
  intro ha
  unfold takeN
  rw [if_neg (by simp [ha])]
  split
  · simp only; omega
  · split
    · exact Int.le_refl _
    · split <;> exact Int.le_refl _
end Go.Proofs.Ytgdofgckjkmhjaa
