/- Lists of two numbers, where they lie. -/
import Derived.Test.YtgbikakhnmjllaaMem
import Derived.Test.YtgbikakhnmjllaaApg
import Derived.Deep.AppendLies
import Derived.Deep.DeepMust
namespace Go.Proofs.Ytgbikakhnmjllaa
open Go Go.RowKit
structure Hx (p : Prop) : Prop where
  out : p
theorem hx {p : Prop} (h : p) : Hx p := ⟨h⟩
theorem kept_cell {w w' : World} {p : Addr} {v : Value} (hk : Kept [] w w') (h : w.cell? p = some v) : w'.cell? p = some v := by
  rw [hk.cell (block_lt_of_cell h) (by simp)]; exact h
def ci2 (x : Int × Int) : List Value := [.int .i64 x.1, .int .i64 x.2]
def cl2 (l : List (Int × Int)) : List Value := l.flatMap ci2
theorem cl2_len (l : List (Int × Int)) : (cl2 l).length = l.length * 2 := by
  induction l with
  | nil => rfl
  | cons x l ih => rw [cl2, List.flatMap_cons, List.length_append, ← cl2, ih]; simp [ci2]; omega
theorem cl2_push (l : List (Int × Int)) (x : Int × Int) : cl2 (l ++ [x]) = cl2 l ++ ci2 x := by simp [cl2]
theorem cl2_at (l : List (Int × Int)) : ∀ i, i < l.length → ∀ k, k < 2 → (cl2 l)[i * 2 + k]? = (ci2 (l.getD i (0, 0)))[k]? := by
  induction l with
  | nil => intro i hi; simp at hi
  | cons x l ih =>
    intro i hi k hk
    have e : cl2 (x :: l) = ci2 x ++ cl2 l := rfl
    rw [e]
    cases i with
    | zero => rw [Nat.zero_mul, Nat.zero_add, List.getElem?_append_left (by simp [ci2]; omega)]; rfl
    | succ i =>
      rw [List.getElem?_append_right (by simp [ci2]; omega)]
      have h := ih i (by simpa using hi) k hk
      rw [show (ci2 x).length = 2 from rfl, show (i + 1) * 2 + k - 2 = i * 2 + k by omega, h]
      rfl
def Ls (w : World) (a : Option Addr) (l : List (Int × Int)) : Prop := ∀ i, i < l.length → ∃ g off, a = some ⟨g, off, none⟩ ∧ w.cell? ⟨g, off + i * 2, none⟩ = some (.int .i64 (l.getD i (0, 0)).1) ∧ w.cell? ⟨g, off + i * 2 + 1, none⟩ = some (.int .i64 (l.getD i (0, 0)).2)
theorem Ls.kept {w w2 : World} {a : Option Addr} {l : List (Int × Int)} (h : Ls w a l) (hk : Kept [] w w2) : Ls w2 a l := fun i hi => by
  obtain ⟨g, off, h1, h2, h3⟩ := h i hi
  exact ⟨g, off, h1, kept_cell hk h2, kept_cell hk h3⟩
theorem ls_form {w : World} {base : Nat} {e : TypeId} {v : Value} {n : Nat} {l : List (Int × Int)} (h : w.ownsRow base e 2 v n (cl2 l)) : l.length = n ∧ ∃ a cap, v = .slice a n cap ∧ n ≤ cap ∧ Ls w a l := by
  have hl := h.1
  rw [cl2_len] at hl
  have hln : l.length = n := by omega
  refine ⟨hln, ?_⟩
  rcases h.2 with ⟨rfl, rfl⟩ | ⟨g, cap, cur, rfl, hb, hg, hnc, hcm, hcs, htake⟩
  · exact ⟨none, 0, rfl, by omega, fun i hi => by omega⟩
  · refine ⟨_, cap, rfl, hnc, fun i hi => ⟨g, 0, rfl, ?_, ?_⟩⟩
    · rw [Nat.zero_add, h.cellAt (i * 2) (by omega)]
      exact cl2_at l i hi 0 (by omega)
    · rw [Nat.zero_add, h.cellAt (i * 2 + 1) (by omega)]
      exact cl2_at l i hi 1 (by omega)
def LsY (T : TypeId) (w : World) (a : Option Addr) (l : List (Int × Int)) : Prop := Ls w a l ∧ (l ≠ [] → ∃ g off xs, a = some ⟨g, off, none⟩ ∧ Blk w g xs T)
theorem LsY.kept {T : TypeId} {w w2 : World} {a : Option Addr} {l : List (Int × Int)} (h : LsY T w a l) (hk : Kept [] w w2) : LsY T w2 a l :=
  ⟨h.1.kept hk, fun hl => by
    obtain ⟨g, off, xs, h1, h2⟩ := h.2 hl
    exact ⟨g, off, xs, h1, hk.blk h2 (by simp)⟩⟩
/-- It stays, whatever is turned in blocks of another type. -/
theorem LsY.frame {T : TypeId} {w w2 : World} {bs : List Nat} {a : Option Addr} {l : List (Int × Int)} (h : LsY T w a l) (hk : Kept bs w w2) (hb : ∀ b, b ∈ bs → ∀ xs, ¬ Blk w b xs T) : LsY T w2 a l := by
  have hne : l ≠ [] → ∃ g off xs, a = some ⟨g, off, none⟩ ∧ Blk w g xs T ∧ g ∉ bs := fun hl => by
    obtain ⟨g, off, xs, h1, h2⟩ := h.2 hl
    exact ⟨g, off, xs, h1, h2, fun hc => hb g hc xs h2⟩
  refine ⟨fun i hi => ?_, fun hl => ?_⟩
  · obtain ⟨g, off, h1, h2, h3⟩ := h.1 i hi
    obtain ⟨g', off', xs, h4, _, h6⟩ := hne (by intro e; rw [e] at hi; simp at hi)
    rw [h1] at h4
    simp only [Option.some.injEq, Addr.mk.injEq, and_true] at h4
    obtain ⟨rfl, rfl⟩ := h4
    refine ⟨g, off, h1, ?_, ?_⟩
    · rw [hk.cell (block_lt_of_cell h2) h6]; exact h2
    · rw [hk.cell (block_lt_of_cell h3) h6]; exact h3
  · obtain ⟨g, off, xs, h1, h2, h3⟩ := hne hl
    exact ⟨g, off, xs, h1, hk.blk h2 h3⟩
theorem one_ci2 (x : Int × Int) : ∀ u ∈ ci2 x, u.oneCell' = true := by
  intro u hu
  simp only [ci2, List.mem_cons, List.not_mem_nil, or_false] at hu
  rcases hu with rfl | rfl <;> rfl
theorem blk_news {w : World} {g : Nat} {xs : List Value} {T : TypeId} (h : Blk w g xs T) : ∀ ad, some (⟨g, 0, none⟩ : Addr) = some ad → ∀ j u, xs[j]? = some u → w.cell? (ad.add j) = some u := by
  intro ad ha j u hu
  simp only [Option.some.injEq] at ha
  subst ha
  rw [Addr.add_mid]
  simp only [Nat.zero_add]
  exact h.cell hu
theorem grown_blk {w w2 : World} {row : Option Nat} {b : Nat} {xs : List Value} {T : TypeId} (hg : w.grownBy w2 row) (h : Blk w b xs T) (hn : some b ≠ row) : Blk w2 b xs T := by
  have hlt := h.lt
  unfold Blk at *
  rw [hg.block b hlt hn]
  exact h
theorem own_push2 {w : World} {base : Nat} {e : TypeId} {v : Value} {out : List (Int × Int)} {x : Int × Int} (h : w.ownsRow base e 2 v (out.length + 1) (cl2 out ++ ci2 x)) : w.ownsRow base e 2 v (out ++ [x]).length (cl2 (out ++ [x])) := by
  rw [cl2_push, List.length_append]
  exact h
theorem ls_form' {w : World} {base : Nat} {e : TypeId} {a : Option Addr} {n c : Nat} {l : List (Int × Int)} (h : w.ownsRow base e 2 (.slice a n c) n (cl2 l)) : Ls w a l := by
  obtain ⟨_, a', c', he, _, hL⟩ := ls_form h
  simp only [Value.slice.injEq, true_and] at he
  rw [he.1]
  exact hL
theorem own_capL {w : World} {base size : Nat} {e : TypeId} {a : Option Addr} {n c : Nat} {xs : List Value} (h : w.ownsRow base e size (.slice a n c) n xs) : n ≤ c := by
  rcases h.2 with ⟨h', rfl⟩ | ⟨g', cap', cur, h', hb, hg, hnc, hcm, hcs, htake⟩
  · omega
  · simp only [Value.slice.injEq] at h'
    omega
theorem ls_formY {T : TypeId} {w : World} {base : Nat} {a : Option Addr} {n c : Nat} {l : List (Int × Int)} (h : w.ownsRow base T 2 (.slice a n c) n (cl2 l)) : LsY T w a l := by
  refine ⟨ls_form' h, fun hl => ?_⟩
  rcases h.2 with ⟨h', h0⟩ | ⟨g, cap, cur, h', hb, hg, _⟩
  · exfalso
    have h1 := (ls_form h).1
    exact hl (List.eq_nil_of_length_eq_zero (by omega))
  · simp only [Value.slice.injEq, true_and] at h'
    exact ⟨g, 0, cur.toList, h'.1, hg⟩
end Go.Proofs.Ytgbikakhnmjllaa
