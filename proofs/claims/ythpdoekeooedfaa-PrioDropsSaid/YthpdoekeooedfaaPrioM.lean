import Derived.Test.YthpdoekeooedfaaProg
import Derived.Test.YthpdoekeooedfaaMem
import Derived.Test.YthpdoekeooedfaaPrioP
import Derived.Handy
import Derived.LoopTactic
import Derived.Outline
import Derived.Lib.Hide
import Derived.BigQuiet
import Derived.BigGuardPart
import Derived.Deep.RegionHeld3
import Derived.Deep.DeepCutAuto
namespace Go.Proofs.Ythpdoekeooedfaa
open Go Go.RowKit
def itc (x : It) : List Value := [.int .i64 x.rank, .int .i64 x.turn, .int .i64 x.v]
def cel (h : List It) : List Value := h.flatMap itc
theorem cel_len (h : List It) : (cel h).length = 3 * h.length := by
  induction h with
  | nil => rfl
  | cons x h ih => simp only [cel, List.flatMap_cons, List.length_append, List.length_cons] at *; simp only [itc, List.length_cons, List.length_nil]; omega
theorem cel_at (h : List It) : ∀ i, i < h.length → ∀ k, k < 3 → (cel h)[i * 3 + k]? = (itc (at_ h i))[k]? := by
  induction h with
  | nil => intro i hi; simp at hi
  | cons x h ih =>
    intro i hi k hk
    have e : cel (x :: h) = itc x ++ cel h := by simp [cel]
    rw [e]
    rcases Nat.eq_zero_or_pos i with rfl | h0
    · rw [List.getElem?_append_left (by simp [itc]; omega)]
      simp [at_]
    · obtain ⟨j, rfl⟩ : ∃ j, i = j + 1 := ⟨i - 1, by omega⟩
      rw [List.getElem?_append_right (by simp [itc]; omega)]
      have := ih j (by simpa using hi) k hk
      rw [show (itc x).length = 3 from rfl, show (j + 1) * 3 + k - 3 = j * 3 + k by omega, this]
      simp [at_]
/-- Three cells laid over a row. -/
def set3 (xs : List Value) (o : Nat) (x : It) : List Value := ((xs.set o (.int .i64 x.rank)).set (o + 1) (.int .i64 x.turn)).set (o + 2) (.int .i64 x.v)
theorem set3_get (xs : List Value) (o : Nat) (x : It) (j : Nat) (h : o + 3 ≤ xs.length) : (set3 xs o x)[j]? = if o ≤ j ∧ j < o + 3 then (itc x)[j - o]? else xs[j]? := by
  unfold set3
  simp only [List.getElem?_set, List.length_set]
  by_cases h0 : o ≤ j ∧ j < o + 3
  · rw [if_pos h0]
    have : j = o ∨ j = o + 1 ∨ j = o + 2 := by omega
    rcases this with rfl | rfl | rfl
    · rw [if_neg (by omega), if_neg (by omega), if_pos rfl, if_pos (by omega), Nat.sub_self]; rfl
    · rw [if_neg (by omega), if_pos rfl, if_pos (by omega), show o + 1 - o = 1 by omega]; rfl
    · rw [if_pos rfl, if_pos (by omega), show o + 2 - o = 2 by omega]; rfl
  · rw [if_neg h0, if_neg (by omega), if_neg (by omega), if_neg (by omega)]
theorem cel_set (h : List It) (rest : List Value) (i : Nat) (x : It) (hi : i < h.length) : set3 (cel h ++ rest) (i * 3) x = cel (h.set i x) ++ rest := by
  apply List.ext_getElem?
  intro j
  have hl := cel_len h
  have hl2 := cel_len (h.set i x)
  rw [List.length_set] at hl2
  rw [set3_get _ _ _ _ (by simp; omega)]
  by_cases hj : j < (cel h).length
  · rw [List.getElem?_append_left hj, List.getElem?_append_left (by omega)]
    have e := cel_at h (j / 3) (by omega) (j % 3) (by omega)
    have e2 := cel_at (h.set i x) (j / 3) (by simp; omega) (j % 3) (by omega)
    rw [show j / 3 * 3 + j % 3 = j by omega] at e e2
    rw [e, e2, at_set _ _ _ _ hi]
    by_cases h0 : i * 3 ≤ j ∧ j < i * 3 + 3
    · rw [if_pos h0, if_pos (by omega), show j - i * 3 = j % 3 by omega]
    · rw [if_neg h0, if_neg (by omega)]
  · rw [if_neg (by omega), List.getElem?_append_right (by omega), List.getElem?_append_right (by omega), hl, hl2]
/-- A queue that has a row of items. -/
structure Qm (w : World) (q g cap : Nat) (room turns : Int) (h : List It) (rest : List Value) : Prop where
  hq : Blk w q [.int .i64 room, .int .i64 turns, .slice (some ⟨g, 0, none⟩) h.length cap] 53
  hg : Blk w g (cel h ++ rest) 55
  hl : h.length ≤ cap
  hcap : cap ≤ maxLen
  hrest : (cel h ++ rest).length = cap * 3
  hne : q ≠ g
theorem Qm.at {w : World} {q g cap : Nat} {room turns : Int} {h : List It} {rest : List Value} (m : Qm w q g cap room turns h rest) (i : Nat) (hi : i < h.length) :
    w.cell? ⟨g, i * 3, none⟩ = some (.int .i64 (at_ h i).rank) ∧ w.cell? ⟨g, i * 3 + 1, none⟩ = some (.int .i64 (at_ h i).turn) ∧ w.cell? ⟨g, i * 3 + 2, none⟩ = some (.int .i64 (at_ h i).v) := by
  have hl := cel_len h
  refine ⟨m.hg.cell ?_, m.hg.cell ?_, m.hg.cell ?_⟩
  · rw [List.getElem?_append_left (by omega)]; exact cel_at h i hi 0 (by omega)
  · rw [List.getElem?_append_left (by omega), cel_at h i hi 1 (by omega)]; rfl
  · rw [List.getElem?_append_left (by omega), cel_at h i hi 2 (by omega)]; rfl
theorem Qm.kept {w w' : World} {q g cap : Nat} {room turns : Int} {h : List It} {rest : List Value} (m : Qm w q g cap room turns h rest) (hk : Kept [] w w') : Qm w' q g cap room turns h rest :=
  ⟨hk.blk m.hq (by simp), hk.blk m.hg (by simp), m.hl, m.hcap, m.hrest, m.hne⟩
/-- Three stores, one behind the other. -/
def lay3 (w : World) (g o : Nat) (x : It) : World := ((w.setCell ⟨g, o, none⟩ (.int .i64 x.rank)).setCell ⟨g, o + 1, none⟩ (.int .i64 x.turn)).setCell ⟨g, o + 2, none⟩ (.int .i64 x.v)
theorem Blk.put3 {w : World} {g : Nat} {xs : List Value} {T : TypeId} (h : Blk w g xs T) (o : Nat) (x : It) : Blk (lay3 w g o x) g (set3 xs o x) T := ((h.set o _).set (o + 1) _).set (o + 2) _
theorem Blk.put3_ne {w : World} {b g : Nat} {xs : List Value} {T : TypeId} (h : Blk w b xs T) (hn : b ≠ g) (o : Nat) (x : It) : Blk (lay3 w g o x) b xs T :=
  ((h.set_ne (a := ⟨g, o, none⟩) hn _).set_ne (a := ⟨g, o + 1, none⟩) hn _).set_ne (a := ⟨g, o + 2, none⟩) hn _
theorem Kept.put3 {bs : List Nat} {a w : World} (h : Kept bs a w) {g : Nat} (hp : g ∈ bs ∨ a.heap.size ≤ g) (o : Nat) (x : It) : Kept bs a (lay3 w g o x) :=
  ((h.setCell (p := ⟨g, o, none⟩) hp _).setCell (p := ⟨g, o + 1, none⟩) hp _).setCell (p := ⟨g, o + 2, none⟩) hp _
theorem Qm.put {w : World} {q g cap : Nat} {room turns : Int} {h : List It} {rest : List Value} (m : Qm w q g cap room turns h rest) (i : Nat) (hi : i < h.length) (x : It) : Qm (lay3 w g (i * 3) x) q g cap room turns (h.set i x) rest := by
  have hg := m.hg.put3 (i * 3) x
  have hc := cel_set h rest i x hi
  rw [hc] at hg
  have hq := m.hq.put3_ne m.hne (i * 3) x
  refine ⟨by rw [List.length_set]; exact hq, hg, by rw [List.length_set]; exact m.hl, m.hcap, ?_, m.hne⟩
  have := m.hrest
  simp only [List.length_append, cel_len, List.length_set] at *
  exact this
set_option maxHeartbeats 800000 in
theorem ahead_any (x y : It) (w : World) :
    Calls Try.prog 24 #[.agg #[.int .i64 x.rank, .int .i64 x.turn, .int .i64 x.v], .agg #[.int .i64 y.rank, .int .i64 y.turn, .int .i64 y.v]] w fun e w' => e = .returned (.bool (ahB x y)) ∧ Kept [] w w' := by
  go_enter Try.func24, Try.ntmps24
  go_wp2
  all_goals
    try simp only [beq_iff_eq] at *
    try simp only [beq_eq_false_iff_ne] at *
    go_ret
    refine ⟨ret_bool ?_, ((Kept.refl _ _).alloc _).alloc _⟩
    unfold ahB
    first | exact (decide_eq_false (by omega)).symm | exact (decide_eq_true (by omega)).symm | exact decide_eq_decide.2 (by omega)
end Go.Proofs.Ythpdoekeooedfaa
