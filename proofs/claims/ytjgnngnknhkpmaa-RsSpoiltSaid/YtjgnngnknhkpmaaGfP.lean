/- The field of 256 elements: tables, in plain terms. -/
import Derived.Test.YtjgnngnknhkpmaaMem
namespace Go.Proofs.Ytjgnngnknhkpmaa
open Go Go.RowKit
def gw : Nat → Nat
  | 0 => 1
  | i + 1 => if 255 < gw i * 2 then (gw i * 2) ^^^ 285 else gw i * 2
def gwP : Nat × Nat → Nat → Nat × Nat
  | p, 0 => p
  | p, n + 1 => gwP p n
/-- All from a place on are right. -/
def gwOk (f : Nat → Nat) : Nat → Nat → Bool
  | _, 0 => true
  | w, n + 1 => (0 < w && w < 256 : Bool) && gwOk f (f w) n
def gs (w : Nat) : Nat := if 255 < w * 2 then (w * 2) ^^^ 285 else w * 2
theorem gw_step (i : Nat) : gw (i + 1) = gs (gw i) := rfl
theorem gwOk_at (n : Nat) : ∀ (i : Nat), gwOk gs (gw i) n = true → ∀ j, j < n → 0 < gw (i + j) ∧ gw (i + j) < 256 := by
  induction n with
  | zero => intro i _ j hj; omega
  | succ n ih =>
    intro i h j hj
    unfold gwOk at h
    simp only [Bool.and_eq_true, decide_eq_true_eq] at h
    cases j with
    | zero => exact h.1
    | succ j =>
      rw [← gw_step] at h
      have h2 := ih (i + 1) h.2 j (by omega)
      rw [show i + (j + 1) = i + 1 + j by omega]
      exact h2
theorem gw_ok : ∀ j, j < 256 → 0 < gw j ∧ gw j < 256 := by
  intro j hj
  have h := gwOk_at 256 0 (by decide +kernel) j hj
  simpa using h
def logF : Nat → Nat → Nat
  | 0, _ => 0
  | n + 1, v => if gw n = v then n else logF n v
theorem logF_lt (n v : Nat) (hn : 0 < n) : logF n v < n := by
  induction n with
  | zero => omega
  | succ n ih =>
    unfold logF
    split
    · omega
    · rcases Nat.eq_zero_or_pos n with h | h
      · subst h; simp [logF]
      · have := ih h; omega
def expC (n : Nat) : List Value := tab 510 fun i => .int .u8 ((if i % 255 < n then gw (i % 255) else 0 : Nat) : Int)
def logC (n : Nat) : List Value := tab 256 fun v => .int .i64 ((logF n v : Nat) : Int)
def tabC (n : Nat) : List Value := expC n ++ logC n
theorem tabC_len (n : Nat) : (tabC n).length = 766 := by simp [tabC, expC, logC, tab_len]
theorem tabC_exp (n i : Nat) (h : i < 510) : (tabC n)[i]? = some (.int .u8 ((if i % 255 < n then gw (i % 255) else 0 : Nat) : Int)) := by
  rw [tabC, List.getElem?_append_left (by rw [expC, tab_len]; exact h)]
  exact tab_get h
theorem tabC_log (n v : Nat) (h : v < 256) : (tabC n)[510 + v]? = some (.int .i64 ((logF n v : Nat) : Int)) := by
  rw [tabC, List.getElem?_append_right (by rw [expC, tab_len]; omega), expC, tab_len, show 510 + v - 510 = v by omega]
  exact tab_get h
theorem tabC_0 : tabC 0 = List.replicate 510 (.int .u8 0) ++ List.replicate 256 (.int .i64 0) := by
  have e1 : expC 0 = List.replicate 510 (.int .u8 0) := by
    refine List.ext_getElem? fun i => ?_
    rcases Nat.lt_or_ge i 510 with h | h
    · rw [expC, tab_get h, List.getElem?_replicate, if_pos h]
      simp
    · rw [expC, tab_out h, List.getElem?_replicate, if_neg (by omega)]
  have e2 : logC 0 = List.replicate 256 (.int .i64 0) := by
    refine List.ext_getElem? fun i => ?_
    rcases Nat.lt_or_ge i 256 with h | h
    · rw [logC, tab_get h, List.getElem?_replicate, if_pos h]
      rfl
    · rw [logC, tab_out h, List.getElem?_replicate, if_neg (by omega)]
  rw [tabC, e1, e2]
/-- One turn of the table's loop. -/
theorem tabC_step (n : Nat) (hn : n < 255) : (((tabC n).set n (.int .u8 (gw n : Nat))).set (n + 255) (.int .u8 (gw n : Nat))).set (510 + gw n) (.int .i64 (n : Int)) = tabC (n + 1) := by
  have hg := gw_ok n (by omega)
  have hl : (expC n).length = 510 := by rw [expC, tab_len]
  have e1 : ((expC n).set n (.int .u8 (gw n : Nat))).set (n + 255) (.int .u8 (gw n : Nat)) = expC (n + 1) := by
    have a1 : (expC n).set n (.int .u8 (gw n : Nat)) = tab 510 fun i => .int .u8 ((if i % 255 < n ∨ i = n then gw (i % 255) else 0 : Nat) : Int) := by
      refine tab_set (by omega) ?_ fun i _ hi => ?_
      · rw [if_pos (.inr rfl), Nat.mod_eq_of_lt (by omega)]
      · simp [hi]
    rw [a1]
    refine tab_set (by omega) ?_ fun i hi hne => ?_
    · rw [if_pos (by omega), show (n + 255) % 255 = n by omega]
    · by_cases h1 : i % 255 < n ∨ i = n
      · rw [if_pos h1, if_pos (by omega)]
      · rw [if_neg h1, if_neg (by omega)]
  have e2 : (logC n).set (gw n) (.int .i64 (n : Int)) = logC (n + 1) := by
    refine tab_set (by omega) ?_ fun i _ hi => ?_
    · simp [logF]
    · simp [logF, Ne.symm hi]
  rw [tabC, List.set_append_left _ _ (by omega), List.set_append_left _ _ (by rw [List.length_set]; omega), List.set_append_right _ _ (by simp only [List.length_set]; omega)]
  simp only [List.length_set, hl]
  rw [show 510 + gw n - 510 = gw n by omega, e1, e2]
  rfl
def glog (v : Nat) : Nat := logF 255 v
theorem glog_lt (v : Nat) : glog v < 255 := logF_lt 255 v (by omega)
def gmul (a b : Nat) : Nat := if a = 0 ∨ b = 0 then 0 else gw ((glog a + glog b) % 255)
def ginv (a : Nat) : Nat := gw ((255 - glog a) % 255)
def gexp (n : Nat) : Nat := gw (n % 255)
def gpow (a n : Nat) : Nat := if n = 0 then 1 else if a = 0 then 0 else gw (glog a * (n % 255) % 255)
theorem gmul_lt (a b : Nat) : gmul a b < 256 := by
  unfold gmul
  split
  · omega
  · exact (gw_ok _ (by have := Nat.mod_lt (glog a + glog b) (show 0 < 255 by omega); omega)).2
theorem ginv_lt (a : Nat) : ginv a < 256 := (gw_ok _ (by have := Nat.mod_lt (255 - glog a) (show 0 < 255 by omega); omega)).2
theorem gpow_lt (a n : Nat) : gpow a n < 256 := by
  unfold gpow
  split
  · omega
  · split
    · omega
    · exact (gw_ok _ (by have := Nat.mod_lt (glog a * (n % 255)) (show 0 < 255 by omega); omega)).2
/-- What stands in the table. -/
theorem tab_exp (i : Nat) (h : i < 510) : (tabC 255)[i]? = some (.int .u8 ((gw (i % 255) : Nat) : Int)) := by
  rw [tabC_exp 255 i h, if_pos (Nat.mod_lt _ (by omega))]
theorem tab_log (v : Nat) (h : v < 256) : (tabC 255)[510 + v]? = some (.int .i64 ((glog v : Nat) : Int)) := tabC_log 255 v h
end Go.Proofs.Ytjgnngnknhkpmaa
