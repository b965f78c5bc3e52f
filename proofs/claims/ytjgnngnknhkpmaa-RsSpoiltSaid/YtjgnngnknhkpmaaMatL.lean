/- The program's matrices: Invert. -/
import Derived.Test.YtjgnngnknhkpmaaMatK
namespace Go.Proofs.Ytjgnngnknhkpmaa
open Go Go.RowKit
theorem swapM_mt {r c : Nat} {m : List (List Nat)} (h : Mt r c m) {i k : Nat} (hi : i < r) (hk : k < r) : Mt r c (swapM m i k) := by
  unfold swapM
  split
  · exact h
  · exact (h.set i (h.len hk) (h.rowOct hk)).set k (h.len hi) (h.rowOct hi)
theorem swapM_rw {r c : Nat} {m : List (List Nat)} (h : Mt r c m) {i k : Nat} (hi : i < r) (hk : k < r) : rw (swapM m i k) i = rw m k := by
  unfold swapM
  split
  · rename_i e; rw [e]
  · rename_i e
    rw [rw_set (by rw [List.length_set, h.rows]; exact hk), if_neg e, rw_set (by rw [h.rows]; exact hi), if_pos rfl]
abbrev Mm := List (List Nat) × List (List Nat)
def invStep (n i : Nat) (p : Mm) : Option Mm := match pivF p.1 i i (n - i) with
  | none => none
  | some k => some (clrM n i i (swapM p.1 i k, swapM p.2 i k))
def invS (n : Nat) (p : Mm) : Nat → Option Mm
  | 0 => some p
  | i + 1 => match invS n p i with
    | none => none
    | some q => invStep n i q
theorem invS_none (n : Nat) (p : Mm) (i : Nat) (h : invS n p i = none) : ∀ j, i ≤ j → invS n p j = none := by
  intro j hj
  induction j with
  | zero => obtain rfl : i = 0 := by omega
            exact h
  | succ j ih =>
    rcases Nat.lt_or_ge i (j + 1) with g | g
    · rw [invS, ih (by omega)]
    · obtain rfl : i = j + 1 := by omega
      exact h
def idM (n : Nat) : List (List Nat) := genM n n idF
def invM (n : Nat) (a : List (List Nat)) : Option (List (List Nat)) := (invS n (a, idM n) n).map (·.2)
def InP (w : World) (n : Nat) (res : Option (List (List Nat))) (e : Ending) (w' : World) : Prop := match res with
  | some inv => ∃ g, e = .returned (.tuple #[mv g n n (n * n), .int .i64 0]) ∧ w.heap.size ≤ g ∧ Blk w' g (cellsM inv []) 5 ∧ Mt n n inv ∧ Kept [] w w'
  | none => e = .returned (.tuple #[.agg #[.int .i64 0, .int .i64 0, .slice none 0 0], .int .i64 51]) ∧ Kept [] w w'
theorem InP.ok {w : World} {n : Nat} {res : Option (List (List Nat))} {e : Ending} {w' : World} (inv : List (List Nat)) (hr : res = some inv) (h : ∃ g, e = .returned (.tuple #[mv g n n (n * n), .int .i64 0]) ∧ w.heap.size ≤ g ∧ Blk w' g (cellsM inv []) 5 ∧ Mt n n inv ∧ Kept [] w w') : InP w n res e w' := by subst hr; exact h
theorem InP.no {w : World} {n : Nat} {res : Option (List (List Nat))} {e : Ending} {w' : World} (hr : res = none) (h : e = .returned (.tuple #[.agg #[.int .i64 0, .int .i64 0, .slice none 0 0], .int .i64 51]) ∧ Kept [] w w') : InP w n res e w' := by subst hr; exact h
/-- Invert's blocks. -/
structure InS (w wr : World) (n gm capm go b6 b7 : Nat) (M O : List (List Nat)) (restm : List Value) : Prop where
  r4 : Blk wr (w.heap.size + 1) [.int .i64 0, .int .i64 0, .slice none 0 0] 41
  r6 : Blk wr b6 [.int .i64 (n : Int), .int .i64 (n : Int), .slice (some ⟨gm, 0, none⟩) (n * n) capm] 41
  r7 : Blk wr b7 [.int .i64 (n : Int), .int .i64 (n : Int), .slice (some ⟨go, 0, none⟩) (n * n) (n * n)] 41
  bM : Blk wr gm (cellsM M restm) 5
  bO : Blk wr go (cellsM O []) 5
  mM : Mt n n M
  mO : Mt n n O
  k : Kept [] w wr
theorem Blk.ty {w : World} {b : Nat} {xs ys : List Value} {T U : TypeId} (h : Blk w b xs T) (k : Blk w b ys U) : T = U := by
  unfold Blk at *
  rw [h] at k
  simp only [Option.some.injEq, Obj.cells.injEq] at k
  exact k.2.1
theorem InS.kept {w wr w2 : World} {n gm capm go b6 b7 : Nat} {M O : List (List Nat)} {restm : List Value} (s : InS w wr n gm capm go b6 b7 M O restm) (hk : Kept [] wr w2) : InS w w2 n gm capm go b6 b7 M O restm :=
  ⟨hk.blk s.r4 (by simp), hk.blk s.r6 (by simp), hk.blk s.r7 (by simp), hk.blk s.bM (by simp), hk.blk s.bO (by simp), s.mM, s.mO, s.k.trans0 hk⟩
theorem InS.new {w wr w2 : World} {n gm capm go b6 b7 : Nat} {M O M' O' : List (List Nat)} {restm : List Value} {bs : List Nat} (s : InS w wr n gm capm go b6 b7 M O restm) (hm : Blk w2 gm (cellsM M' restm) 5) (ho : Blk w2 go (cellsM O' []) 5) (mm : Mt n n M') (mo : Mt n n O') (hk : Kept bs wr w2) (hbs : ∀ b ∈ bs, b = gm ∨ b = go) (hl : w.heap.size ≤ gm ∧ w.heap.size ≤ go) : InS w w2 n gm capm go b6 b7 M' O' restm := by
  have hf : ∀ b, (∃ xs, Blk wr b xs 41) → b ∉ bs := fun b ⟨xs, hx⟩ hb => by
    rcases hbs b hb with rfl | rfl
    · exact absurd (hx.ty s.bM) (by decide)
    · exact absurd (hx.ty s.bO) (by decide)
  exact ⟨hk.blk s.r4 (hf _ ⟨_, s.r4⟩), hk.blk s.r6 (hf _ ⟨_, s.r6⟩), hk.blk s.r7 (hf _ ⟨_, s.r7⟩), hm, ho, mm, mo, s.k.trans hk (fun _ h => by simp at h) (fun x hx => by
    right
    rcases hbs x hx with rfl | rfl
    · exact hl.1
    · exact hl.2)⟩
end Go.Proofs.Ytjgnngnknhkpmaa
