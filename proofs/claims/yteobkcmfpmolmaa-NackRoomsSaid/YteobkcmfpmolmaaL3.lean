/- A list of items, where it lies. -/
import Derived.Test.YteobkcmfpmolmaaL2
import Derived.Test.YteobkcmfpmolmaaNkP
namespace Go.Proofs.Yteobkcmfpmolmaa
open Go Go.RowKit
def it0 : It := (0, 0, 0)
def ci3 (x : It) : List Value := [.int .u32 x.1, .int .i64 x.2.1, .int .i64 x.2.2]
def cl3 (l : List (It)) : List Value := l.flatMap ci3
theorem cl3_len (l : List (It)) : (cl3 l).length = l.length * 3 := by
  induction l with
  | nil => rfl
  | cons x l ih => rw [cl3, List.flatMap_cons, List.length_append, ← cl3, ih]; simp [ci3]; omega
theorem cl3_push (l : List (It)) (x : It) : cl3 (l ++ [x]) = cl3 l ++ ci3 x := by simp [cl3]
theorem cl3_at (l : List (It)) : ∀ i, i < l.length → ∀ k, k < 3 → (cl3 l)[i * 3 + k]? = (ci3 (l.getD i it0))[k]? := by
  induction l with
  | nil => intro i hi; simp at hi
  | cons x l ih =>
    intro i hi k hk
    have e : cl3 (x :: l) = ci3 x ++ cl3 l := rfl
    rw [e]
    cases i with
    | zero => rw [Nat.zero_mul, Nat.zero_add, List.getElem?_append_left (by simp [ci3]; omega)]; rfl
    | succ i =>
      rw [List.getElem?_append_right (by simp [ci3]; omega)]
      have h := ih i (by simpa using hi) k hk
      rw [show (ci3 x).length = 3 from rfl, show (i + 1) * 3 + k - 3 = i * 3 + k by omega, h]
      rfl
/-- The list in blocks of a type. -/
structure L3 (w : World) (T : TypeId) (a : Option Addr) (l : List (It)) : Prop where
  cell : ∀ i, i < l.length → ∃ g off, a = some ⟨g, off, none⟩ ∧ w.cell? ⟨g, off + i * 3, none⟩ = some (.int .u32 (l.getD i it0).1) ∧ w.cell? ⟨g, off + i * 3 + 1, none⟩ = some (.int .i64 (l.getD i it0).2.1) ∧ w.cell? ⟨g, off + i * 3 + 2, none⟩ = some (.int .i64 (l.getD i it0).2.2)
  blk : l ≠ [] → ∃ g off xs, a = some ⟨g, off, none⟩ ∧ Blk w g xs T
theorem L3.nil (w : World) (T : TypeId) (a : Option Addr) : L3 w T a [] := ⟨fun i hi => by simp at hi, fun h => absurd rfl h⟩
theorem L3.kept {w w2 : World} {T : TypeId} {a : Option Addr} {l : List (It)} (h : L3 w T a l) (hk : Kept [] w w2) : L3 w2 T a l :=
  ⟨fun i hi => by
    obtain ⟨g, off, h1, h2, h3, h4⟩ := h.cell i hi
    exact ⟨g, off, h1, kept_c2 hk h2, kept_c2 hk h3, kept_c2 hk h4⟩, fun hl => by
    obtain ⟨g, off, xs, h1, h2⟩ := h.blk hl
    exact ⟨g, off, xs, h1, hk.blk h2 (by simp)⟩⟩
/-- It stays, whatever is turned in blocks of another type. -/
theorem L3.frame {w w2 : World} {T : TypeId} {bs : List Nat} {a : Option Addr} {l : List (It)} (h : L3 w T a l) (hk : Kept bs w w2) (hb : ∀ b, b ∈ bs → ∀ xs, ¬ Blk w b xs T) : L3 w2 T a l := by
  have hne : l ≠ [] → ∃ g off xs, a = some ⟨g, off, none⟩ ∧ Blk w g xs T ∧ g ∉ bs := fun hl => by
    obtain ⟨g, off, xs, h1, h2⟩ := h.blk hl
    exact ⟨g, off, xs, h1, h2, fun hc => hb g hc xs h2⟩
  refine ⟨fun i hi => ?_, fun hl => ?_⟩
  · obtain ⟨g, off, h1, h2, h3, h7⟩ := h.cell i hi
    obtain ⟨g', off', xs, h4, _, h6⟩ := hne (by intro e; rw [e] at hi; simp at hi)
    rw [h1] at h4
    simp only [Option.some.injEq, Addr.mk.injEq, and_true] at h4
    obtain ⟨rfl, rfl⟩ := h4
    refine ⟨g, off, h1, ?_, ?_, ?_⟩
    · rw [hk.cell (block_lt_of_cell h2) h6]; exact h2
    · rw [hk.cell (block_lt_of_cell h3) h6]; exact h3
    · rw [hk.cell (block_lt_of_cell h7) h6]; exact h7
  · obtain ⟨g, off, xs, h1, h2, h3⟩ := hne hl
    exact ⟨g, off, xs, h1, hk.blk h2 h3⟩
theorem one_ci3 (x : It) : ∀ u ∈ ci3 x, u.oneCell' = true := by
  intro u hu
  simp only [ci3, List.mem_cons, List.not_mem_nil, or_false] at hu
  rcases hu with rfl | rfl | rfl <;> rfl
theorem l3_own {w : World} {base : Nat} {T : TypeId} {v : Value} {n : Nat} {l : List (It)} (h : w.ownsRow base T 3 v n (cl3 l)) : l.length = n ∧ ∃ a cap, v = .slice a n cap ∧ n ≤ cap ∧ L3 w T a l := by
  have hl := h.1
  rw [cl3_len] at hl
  have hln : l.length = n := by omega
  refine ⟨hln, ?_⟩
  rcases h.2 with ⟨rfl, rfl⟩ | ⟨g, cap, cur, rfl, hb, hg, hnc, hcm, hcs, htake⟩
  · exact ⟨none, 0, rfl, by omega, fun i hi => by omega, fun hne => absurd (List.eq_nil_of_length_eq_zero hln) hne⟩
  · refine ⟨_, cap, rfl, hnc, fun i hi => ⟨g, 0, rfl, ?_, ?_, ?_⟩, fun _ => ⟨g, 0, cur.toList, rfl, hg⟩⟩
    · rw [Nat.zero_add, h.cellAt (i * 3) (by omega)]
      exact cl3_at l i hi 0 (by omega)
    · rw [Nat.zero_add, h.cellAt (i * 3 + 1) (by omega)]
      exact cl3_at l i hi 1 (by omega)
    · rw [Nat.zero_add, h.cellAt (i * 3 + 2) (by omega)]
      exact cl3_at l i hi 2 (by omega)
theorem own_push3 {w : World} {base : Nat} {e : TypeId} {v : Value} {out : List (It)} {x : It} (h : w.ownsRow base e 3 v (out.length + 1) (cl3 out ++ ci3 x)) : w.ownsRow base e 3 v (out ++ [x]).length (cl3 (out ++ [x])) := by
  rw [cl3_push, List.length_append]
  exact h
end Go.Proofs.Yteobkcmfpmolmaa
