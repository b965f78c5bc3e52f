/- A list of pairs of numbers, where it lies. -/
import Derived.Test.YtimplkdmhndalaaApg
namespace Go.Proofs.Ytimplkdmhndalaa
open Go Go.RowKit
def ci2 (x : Int × Int) : List Value := [.int .i64 x.1, .int .i64 x.2]
def cl2 (l : List (Int × Int)) : List Value := l.flatMap ci2
theorem cl2_len (l : List (Int × Int)) : (cl2 l).length = l.length * 2 := by
  induction l with
  | nil => rfl
  | cons x l ih => rw [cl2, List.flatMap_cons, List.length_append, ← cl2, ih]; simp [ci2]; omega
theorem cl2_push (l : List (Int × Int)) (x : Int × Int) : cl2 (l ++ [x]) = cl2 l ++ ci2 x := by simp [cl2]
theorem cl2_at (l : List (Int × Int)) : ∀ i, i < l.length → ∀ k, k < 2 → (cl2 l)[i * 2 + k]? = (ci2 (l.getD i (0, 0)))[k]? := by
  induction l with
  | nil => intro i hi; simp at hi
  | cons x l ih =>
    intro i hi k hk
    have e : cl2 (x :: l) = ci2 x ++ cl2 l := rfl
    rw [e]
    cases i with
    | zero => rw [Nat.zero_mul, Nat.zero_add, List.getElem?_append_left (by simp [ci2]; omega)]; rfl
    | succ i =>
      rw [List.getElem?_append_right (by simp [ci2]; omega)]
      have h := ih i (by simpa using hi) k hk
      rw [show (ci2 x).length = 2 from rfl, show (i + 1) * 2 + k - 2 = i * 2 + k by omega, h]
      rfl
theorem kept_c2 {w w' : World} {p : Addr} {v : Value} (hk : Kept [] w w') (h : w.cell? p = some v) : w'.cell? p = some v := by
  rw [hk.cell (block_lt_of_cell h) (by simp)]; exact h
/-- The list in blocks of a type. -/
structure L2 (w : World) (T : TypeId) (a : Option Addr) (l : List (Int × Int)) : Prop where
  cell : ∀ i, i < l.length → ∃ g off, a = some ⟨g, off, none⟩ ∧ w.cell? ⟨g, off + i * 2, none⟩ = some (.int .i64 (l.getD i (0, 0)).1) ∧ w.cell? ⟨g, off + i * 2 + 1, none⟩ = some (.int .i64 (l.getD i (0, 0)).2)
  blk : l ≠ [] → ∃ g off xs, a = some ⟨g, off, none⟩ ∧ Blk w g xs T
theorem L2.nil (w : World) (T : TypeId) (a : Option Addr) : L2 w T a [] := ⟨fun i hi => by simp at hi, fun h => absurd rfl h⟩
theorem L2.kept {w w2 : World} {T : TypeId} {a : Option Addr} {l : List (Int × Int)} (h : L2 w T a l) (hk : Kept [] w w2) : L2 w2 T a l :=
  ⟨fun i hi => by
    obtain ⟨g, off, h1, h2, h3⟩ := h.cell i hi
    exact ⟨g, off, h1, kept_c2 hk h2, kept_c2 hk h3⟩, fun hl => by
    obtain ⟨g, off, xs, h1, h2⟩ := h.blk hl
    exact ⟨g, off, xs, h1, hk.blk h2 (by simp)⟩⟩
/-- It stays, whatever is turned in blocks of another type. -/
theorem L2.frame {w w2 : World} {T : TypeId} {bs : List Nat} {a : Option Addr} {l : List (Int × Int)} (h : L2 w T a l) (hk : Kept bs w w2) (hb : ∀ b, b ∈ bs → ∀ xs, ¬ Blk w b xs T) : L2 w2 T a l := by
  have hne : l ≠ [] → ∃ g off xs, a = some ⟨g, off, none⟩ ∧ Blk w g xs T ∧ g ∉ bs := fun hl => by
    obtain ⟨g, off, xs, h1, h2⟩ := h.blk hl
    exact ⟨g, off, xs, h1, h2, fun hc => hb g hc xs h2⟩
  refine ⟨fun i hi => ?_, fun hl => ?_⟩
  · obtain ⟨g, off, h1, h2, h3⟩ := h.cell i hi
    obtain ⟨g', off', xs, h4, _, h6⟩ := hne (by intro e; rw [e] at hi; simp at hi)
    rw [h1] at h4
    simp only [Option.some.injEq, Addr.mk.injEq, and_true] at h4
    obtain ⟨rfl, rfl⟩ := h4
    refine ⟨g, off, h1, ?_, ?_⟩
    · rw [hk.cell (block_lt_of_cell h2) h6]; exact h2
    · rw [hk.cell (block_lt_of_cell h3) h6]; exact h3
  · obtain ⟨g, off, xs, h1, h2, h3⟩ := hne hl
    exact ⟨g, off, xs, h1, hk.blk h2 h3⟩
theorem one_ci2 (x : Int × Int) : ∀ u ∈ ci2 x, u.oneCell' = true := by
  intro u hu
  simp only [ci2, List.mem_cons, List.not_mem_nil, or_false] at hu
  rcases hu with rfl | rfl <;> rfl
theorem l2_own {w : World} {base : Nat} {T : TypeId} {v : Value} {n : Nat} {l : List (Int × Int)} (h : w.ownsRow base T 2 v n (cl2 l)) : l.length = n ∧ ∃ a cap, v = .slice a n cap ∧ n ≤ cap ∧ L2 w T a l := by
  have hl := h.1
  rw [cl2_len] at hl
  have hln : l.length = n := by omega
  refine ⟨hln, ?_⟩
  rcases h.2 with ⟨rfl, rfl⟩ | ⟨g, cap, cur, rfl, hb, hg, hnc, hcm, hcs, htake⟩
  · exact ⟨none, 0, rfl, by omega, fun i hi => by omega, fun hne => absurd (List.eq_nil_of_length_eq_zero hln) hne⟩
  · refine ⟨_, cap, rfl, hnc, fun i hi => ⟨g, 0, rfl, ?_, ?_⟩, fun _ => ⟨g, 0, cur.toList, rfl, hg⟩⟩
    · rw [Nat.zero_add, h.cellAt (i * 2) (by omega)]
      exact cl2_at l i hi 0 (by omega)
    · rw [Nat.zero_add, h.cellAt (i * 2 + 1) (by omega)]
      exact cl2_at l i hi 1 (by omega)
theorem own_push2 {w : World} {base : Nat} {e : TypeId} {v : Value} {out : List (Int × Int)} {x : Int × Int} (h : w.ownsRow base e 2 v (out.length + 1) (cl2 out ++ ci2 x)) : w.ownsRow base e 2 v (out ++ [x]).length (cl2 (out ++ [x])) := by
  rw [cl2_push, List.length_append]
  exact h
theorem own_set {w w2 : World} {base size : Nat} {bs : List Nat} {e : TypeId} {v : Value} {n : Nat} {xs : List Value} (h : w.ownsRow base e size v n xs) (hk : Kept bs w w2) (hb : ∀ b, b ∈ bs → b < base) : w2.ownsRow base e size v n xs := by
  refine ⟨h.1, ?_⟩
  rcases h.2 with hn | ⟨g, cap, cur, rfl, hbg, hg, rest⟩
  · exact .inl hn
  · refine .inr ⟨g, cap, cur, rfl, hbg, ?_, rest⟩
    rw [hk.block g (Array.getElem?_eq_some_iff.1 hg).1 (fun hc => by have := hb g hc; omega)]
    exact hg
theorem ret_blk2 {P : Program} {w : World} {fn : Func} {p q : Tmp} {ty : TypeId} (h : fn.results = #[.cell p ty, .tmp q]) (tmps : Array Value) (g : Nat) (T : TypeId) (xs : List Value) (v : Value) (d : TypeDesc)
    (hp : tmps.getD p undef = .pointer (some ⟨g, 0, none⟩)) (hq : tmps.getD q undef = v) (hb : Blk w g xs T)
    (hu : P.underlying ty = some d) (hd : (match d with | .struct _ | .array _ _ => true | _ => false) = true) (hi : (P.info? ty).map (·.size) = some xs.length) :
    (results fn tmps).run P w = .ok (.tuple #[.agg xs.toArray, v]) w := by
  have hp' : tmps[p]?.getD undef = .pointer (some ⟨g, 0, none⟩) := by simpa using hp
  have hq' : tmps[q]?.getD undef = v := by simpa using hq
  simp [results, h, hp', hq', asAddr, run_loadVar_row w g T ty xs.toArray (0, 0) d hb hu hd (by simpa using hi)]
/-- Two boxes of the call's own. -/
structure Bx2 (w wr : World) (T : TypeId) (xs ys : List Value) : Prop where
  b0 : Blk wr w.heap.size xs T
  b1 : Blk wr (w.heap.size + 1) ys T
  k : Kept [] w wr
theorem Bx2.new (w : World) (T : TypeId) (xs ys : List Value) : Bx2 w ((w.alloc (.cells xs.toArray T)).alloc (.cells ys.toArray T)) T xs ys :=
  ⟨(Blk.new w xs T).alloc _, by
    have h := Blk.new (w.alloc (.cells xs.toArray T)) ys T
    rw [World.size_alloc] at h
    exact h, ((Kept.refl _ _).alloc _).alloc _⟩
theorem Bx2.size {w wr : World} {T : TypeId} {xs ys : List Value} (h : Bx2 w wr T xs ys) : w.heap.size + 2 ≤ wr.heap.size := h.b1.lt
theorem Bx2.alloc {w wr : World} {T : TypeId} {xs ys : List Value} (h : Bx2 w wr T xs ys) (o : Obj) : Bx2 w (wr.alloc o) T xs ys := ⟨h.b0.alloc o, h.b1.alloc o, h.k.alloc o⟩
theorem Bx2.kept {w wr w2 : World} {T : TypeId} {xs ys : List Value} (h : Bx2 w wr T xs ys) (hk : Kept [] wr w2) : Bx2 w w2 T xs ys := ⟨hk.blk h.b0 (by simp), hk.blk h.b1 (by simp), h.k.trans0 hk⟩
theorem Bx2.grown {w wr w2 : World} {T : TypeId} {xs ys : List Value} {row : Option Nat} (h : Bx2 w wr T xs ys) (hg : wr.grownBy w2 row) (hr : ∀ k, row = some k → w.heap.size + 2 ≤ k) : Bx2 w w2 T xs ys := by
  have gb : ∀ {b : Nat} {zs : List Value}, Blk wr b zs T → some b ≠ row → Blk w2 b zs T := fun {b zs} hb hn => by
    have hlt := hb.lt
    unfold Blk at *
    rw [hg.block b hlt hn]
    exact hb
  exact ⟨gb h.b0 (fun e => by have := hr _ e.symm; omega), gb h.b1 (fun e => by have := hr _ e.symm; omega), h.k.grown hg (fun k hk => .inr (by have := hr k hk; omega))⟩
end Go.Proofs.Ytimplkdmhndalaa
