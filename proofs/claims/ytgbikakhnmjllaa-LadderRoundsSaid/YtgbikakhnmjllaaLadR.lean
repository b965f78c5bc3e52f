/- Each plays each: the rounds, in plain terms. -/
import Derived.Test.YtgbikakhnmjllaaMem
namespace Go.Proofs.Ytgbikakhnmjllaa
def evN (n : Nat) : Nat := n + n % 2
def paN (n r i : Nat) : Nat := (r + i) % (evN n - 1)
def pbN (n r i : Nat) : Nat := if i = 0 then evN n - 1 else (r + evN n - 1 - i) % (evN n - 1)
def rd (n r : Nat) : Nat → List (Nat × Nat)
  | 0 => []
  | i + 1 => if paN n r i < n ∧ pbN n r i < n then rd n r i ++ [(min (paN n r i) (pbN n r i), max (paN n r i) (pbN n r i))] else rd n r i
def rnd (n r : Nat) : List (Nat × Nat) := rd n r (evN n / 2)
def rds (n : Nat) : Nat → List (Nat × Nat)
  | 0 => []
  | r + 1 => rds n r ++ rnd n r
/-- All differ, and what is met so far. -/
def bmN : List Nat → Nat → Option Nat
  | [], M => some M
  | k :: l, M => if M.testBit k then none else bmN l (M ||| 2 ^ k)
theorem bm_spec : ∀ (l : List Nat) (M N : Nat), bmN l M = some N → l.Nodup ∧ (∀ k, k ∈ l → M.testBit k = false) ∧ (∀ k, N.testBit k = true → M.testBit k = true ∨ k ∈ l)
  | [], M, N, h => by
    simp only [bmN, Option.some.injEq] at h
    subst h
    exact ⟨List.nodup_nil, by simp, fun k h => .inl h⟩
  | x :: l, M, N, h => by
    unfold bmN at h
    split at h
    · exact absurd h (by simp)
    · rename_i hx
      obtain ⟨h1, h2, h3⟩ := bm_spec l _ N h
      have hb : ∀ k, (M ||| 2 ^ x).testBit k = (M.testBit k || decide (x = k)) := fun k => by rw [Nat.testBit_or, Nat.testBit_two_pow]
      refine ⟨List.nodup_cons.2 ⟨fun hm => ?_, h1⟩, fun k hk => ?_, fun k hk => ?_⟩
      · have := h2 x hm
        rw [hb] at this
        simp at this
      · simp only [List.mem_cons] at hk
        rcases hk with rfl | hk
        · simpa using hx
        · have := h2 k hk
          rw [hb] at this
          simp at this
          exact this.1
      · rcases h3 k hk with h4 | h4
        · rw [hb] at h4
          simp only [Bool.or_eq_true, decide_eq_true_eq] at h4
          rcases h4 with h4 | rfl
          · exact .inl h4
          · exact .inr (by simp)
        · exact .inr (by simp [h4])
theorem count_one (l : List Nat) (x : Nat) (h : l.Nodup) (hx : x ∈ l) : l.count x = 1 := by
  induction l with
  | nil => simp at hx
  | cons y l ih =>
    rw [List.nodup_cons] at h
    rw [List.count_cons]
    simp only [List.mem_cons] at hx
    rcases hx with rfl | hx
    · rw [List.count_eq_zero.2 h.1]; simp
    · have hne : y ≠ x := by rintro rfl; exact h.1 hx
      rw [ih h.2 hx]
      simp [hne]
def bothL (l : List (Nat × Nat)) : List Nat := l.flatMap fun p => [p.1, p.2]
def codL (l : List (Nat × Nat)) : List Nat := l.map fun p => p.1 * 32 + p.2
def okR (n r : Nat) : Bool := ((rnd n r).all fun p => p.1.blt p.2 && p.2.blt n) && (bmN (bothL (rnd n r)) 0).isSome
def okA (n : Nat) : Bool := match bmN (codL (rds n (evN n - 1))) 0 with
  | none => false
  | some M => (List.range n).all fun a => (List.range n).all fun b => !(a.blt b) || M.testBit (a * 32 + b)
def okN (n : Nat) : Bool := ((List.range (evN n - 1)).all fun r => okR n r) && okA n
theorem fin_ok : ∀ n, n < 33 → okN n = true := by decide +kernel
theorem rnd_ok (n r : Nat) (hn : n ≤ 32) (hr : r < evN n - 1) : (∀ p ∈ rnd n r, p.1 < p.2 ∧ p.2 < n) ∧ (bothL (rnd n r)).Nodup := by
  have h := fin_ok n (by omega)
  unfold okN at h
  rw [Bool.and_eq_true, List.all_eq_true] at h
  have h1 := h.1 r (List.mem_range.2 hr)
  unfold okR at h1
  rw [Bool.and_eq_true, List.all_eq_true] at h1
  refine ⟨fun p hp => ?_, ?_⟩
  · have h2 := h1.1 p hp
    simpa [Nat.blt_eq] using h2
  · obtain ⟨M, hM⟩ := Option.isSome_iff_exists.1 h1.2
    exact (bm_spec _ _ _ hM).1
theorem met_ok (n : Nat) (hn : n ≤ 32) (a b : Nat) (hab : a < b) (hb : b < n) : (codL (rds n (evN n - 1))).count (a * 32 + b) = 1 := by
  have h := fin_ok n (by omega)
  unfold okN at h
  rw [Bool.and_eq_true] at h
  have h2 := h.2
  unfold okA at h2
  split at h2
  · exact absurd h2 (by simp)
  · rename_i M hM
    obtain ⟨h3, _, h4⟩ := bm_spec _ _ _ hM
    rw [List.all_eq_true] at h2
    have h5 := h2 a (List.mem_range.2 (by omega))
    rw [List.all_eq_true] at h5
    have h6 := h5 b (List.mem_range.2 hb)
    have h7 : M.testBit (a * 32 + b) = true := by
      have : a.blt b = true := by simpa [Nat.blt_eq] using hab
      simpa [this] using h6
    rcases h4 _ h7 with h8 | h8
    · simp at h8
    · exact count_one _ _ h3 h8
end Go.Proofs.Ytgbikakhnmjllaa
