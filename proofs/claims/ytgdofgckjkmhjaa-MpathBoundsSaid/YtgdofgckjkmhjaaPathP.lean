import Derived.Lib.Hide
namespace Go.Proofs.Ytgdofgckjkmhjaa
/-- A way's statistics. -/
structure St where
  loss : Int
  rtt : Int
  var : Int
  marks : Int
  trips : Int
def st0 : St := ⟨0, 0, 0, 0, 0⟩
def tow (n to share : Int) : Int := n + (to - n).fdiv share
def markS (s : St) (b : Bool) : St := { s with loss := tow s.loss (if b then 65535 else 0) 16, marks := s.marks + 1 }
def clt (x : Int) : Int := 8 * max 0 (min x 2000)
def tripS (s : St) (x : Int) : St :=
  if s.trips = 0 then { s with rtt := clt x, var := clt x / 2, trips := s.trips + 1 }
  else { s with var := tow s.var (if clt x - s.rtt < 0 then -(clt x - s.rtt) else clt x - s.rtt) 4, rtt := tow s.rtt (clt x) 8, trips := s.trips + 1 }
theorem tow_bd (n to share L H : Int) (h1 : L ≤ n) (h2 : n ≤ H) (h3 : L ≤ to) (h4 : to ≤ H) (hs : share = 16 ∨ share = 8 ∨ share = 4) : L ≤ tow n to share ∧ tow n to share ≤ H := by
  unfold tow
  rcases hs with rfl | rfl | rfl
  · rw [Int.fdiv_eq_ediv_of_nonneg _ (by omega)]; omega
  · rw [Int.fdiv_eq_ediv_of_nonneg _ (by omega)]; omega
  · rw [Int.fdiv_eq_ediv_of_nonneg _ (by omega)]; omega
structure StOk (s : St) (k : Int) : Prop where
  loss : 0 ≤ s.loss ∧ s.loss ≤ 65535
  rtt : 0 ≤ s.rtt ∧ s.rtt ≤ 16000
  var : 0 ≤ s.var ∧ s.var ≤ 16000
  marks : 0 ≤ s.marks ∧ s.marks ≤ k
  trips : 0 ≤ s.trips ∧ s.trips ≤ k
theorem st0_ok : StOk st0 0 := by constructor <;> simp [st0]
theorem clt_bd (x : Int) : 0 ≤ clt x ∧ clt x ≤ 16000 := by unfold clt; omega
theorem mark_ok (s : St) (b : Bool) (k : Int) (h : StOk s k) : StOk (markS s b) (k + 1) := by
  obtain ⟨h1, h2, h3, h4, h5⟩ := h
  refine ⟨?_, h2, h3, ?_, ?_⟩
  · exact tow_bd _ _ _ _ _ h1.1 h1.2 (by split <;> omega) (by split <;> omega) (by omega)
  · simp only [markS]; omega
  · simp only [markS]; omega
theorem trip_ok (s : St) (x : Int) (k : Int) (h : StOk s k) : StOk (tripS s x) (k + 1) := by
  obtain ⟨h1, h2, h3, h4, h5⟩ := h
  have hc := clt_bd x
  unfold tripS
  split
  · exact ⟨h1, hc, by simp only; omega, by simp only; omega, by simp only; omega⟩
  · exact ⟨h1, tow_bd _ _ _ _ _ h2.1 h2.2 hc.1 hc.2 (by omega), tow_bd _ _ _ _ _ h3.1 h3.2 (by split <;> omega) (by split <;> omega) (by omega), by simp only; omega, by simp only; omega⟩
end Go.Proofs.Ytgdofgckjkmhjaa
