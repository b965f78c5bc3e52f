/- The law's own: its calls, its blocks. -/
import Derived.Test.YthpdoekeooedfaaPrioDa
import Derived.Test.YthpdoekeooedfaaOpen
namespace Go.Proofs.Ythpdoekeooedfaa
open Go Go.RowKit Go.Deep Go.OpenShut
def oc3 (x y z : Int) : List Value := [.int .i64 x, .int .i64 y, .int .i64 z]
/-- A list of calls. -/
structure Ops (w : World) (a : Option Addr) (len cap : Nat) : Prop where
  hle : len ≤ cap
  hcell : ∀ i, i < len → ∃ b off x y z, a = some ⟨b, off, none⟩ ∧ w.rangeAt b (off + i * 3) (oc3 x y z)
theorem Ops.kept {w w' : World} {a : Option Addr} {len cap : Nat} (h : Ops w a len cap) (hk : Kept [] w w') : Ops w' a len cap :=
  ⟨h.hle, fun i hi => by
    obtain ⟨b, off, x, y, z, h1, h2⟩ := h.hcell i hi
    exact ⟨b, off, x, y, z, h1, hk.range h2 (by simp)⟩⟩
/-- The law's two blocks. -/
structure Pb (w W : World) (room : Int) (v : Value) : Prop where
  b0 : Blk W w.heap.size [.int .i64 0, .slice none 0 0] 41
  b1 : Blk W (w.heap.size + 1) [.int .i64 room, v] 41
  k : Kept [] w W
theorem Pb.new (w : World) (room : Int) : Pb w ((w.alloc (.cells #[.int .i64 0, .slice none 0 0] 41)).alloc (.cells #[.int .i64 room, .slice none 0 0] 41)) room (.slice none 0 0) := by
  refine ⟨(Blk.new w [.int .i64 0, .slice none 0 0] _).alloc _, ?_, ((Kept.refl [] w).alloc _).alloc _⟩
  have h := Blk.new (w.alloc (.cells #[.int .i64 0, .slice none 0 0] 41)) [.int .i64 room, .slice none 0 0] 41
  rw [World.size_alloc] at h
  exact h
theorem Pb.kept {w W W2 : World} {room : Int} {v : Value} (b : Pb w W room v) (hk : Kept [] W W2) : Pb w W2 room v := ⟨hk.blk b.b0 (by simp), hk.blk b.b1 (by simp), b.k.trans0 hk⟩
theorem Pb.qs {w W W2 : World} {room : Int} {u : Value} {q : Nat} {v : Value} {rm turns : Int} {h : List It} (b : Pb w W room u) (s : Qs W q v rm turns h) (hk : Kept (q :: v.ownBlock.toList) W W2) (k : Kept [] w W2) : Pb w W2 room u := ⟨b.b0.qs s hk (by decide) (by decide), b.b1.qs s hk (by decide) (by decide), k⟩
theorem Pb.put {w W W2 : World} {room : Int} {u : Value} {t : Nat} (b : Pb w W room u) (hk : Kept [t] W W2) (ht : w.heap.size + 2 ≤ t) : Pb w W2 room u :=
  ⟨hk.blk b.b0 (by simp; omega), hk.blk b.b1 (by simp; omega), b.k.trans hk (fun _ h => by simp at h) (fun x hx => by simp at hx; right; omega)⟩
theorem Pb.size {w W : World} {room : Int} {u : Value} (b : Pb w W room u) : w.heap.size + 2 ≤ W.heap.size := b.b1.lt
/-- What a call leaves in the round. -/
def R12 (w wx : World) (room T : Int) (u s11 s12 s13 : Value) : Prop :=
  ∃ q v T' h s a n c t, s11 = .pointer (some ⟨q, 0, none⟩) ∧ s12 = .pointer (some ⟨t, 0, none⟩) ∧ s13 = .bool true ∧ DoS [] w wx q v room T' h s a n c ∧ T ≤ T' ∧ T' ≤ T + 1 ∧ Pb w wx room u ∧ Blk wx t [.int .i64 room, .slice a n c] 41 ∧ w.heap.size + 2 ≤ t
theorem R12.late {w w2 : World} {q : Nat} {v : Value} {room T T' : Int} {h s : List It} {a : Option Addr} {n c : Nat} {u : Value} (d : DoS [] w w2 q v room T' h s a n c ∧ T ≤ T' ∧ T' ≤ T + 1) (b : Pb w w2 room u) :
    R12 w (w2.alloc (.cells #[.int .i64 room, .slice a n c] 41)) room T u (.pointer (some ⟨q, 0, none⟩)) (.pointer (some ⟨w2.heap.size, 0, none⟩)) (.bool true) :=
  ⟨q, v, T', h, s, a, n, c, w2.heap.size, rfl, rfl, rfl, d.1.kept ((Kept.refl [] w2).alloc _), d.2.1, d.2.2, b.kept ((Kept.refl [] w2).alloc _), Blk.new w2 [.int .i64 room, .slice a n c] _, b.size⟩
theorem R12.early {w w2 : World} {q t : Nat} {v : Value} {room T T' : Int} {h s : List It} {a : Option Addr} {n c : Nat} {u : Value} (d : DoS [] w w2 q v room T' h s a n c ∧ T ≤ T' ∧ T' ≤ T + 1) (b : Pb w w2 room u) (hb : Blk w2 t [.int .i64 0, .slice none 0 0] 41) (ht : w.heap.size + 2 ≤ t) :
    R12 w ((w2.setCell ⟨t, 0, none⟩ (.int .i64 room)).setCell ⟨t, 1, none⟩ (.slice a n c)) room T u (.pointer (some ⟨q, 0, none⟩)) (.pointer (some ⟨t, 0, none⟩)) (.bool true) :=
  have hk := ((Kept.refl [t] w2).setCell (p := ⟨t, 0, none⟩) (.inl (by simp)) (.int .i64 room)).setCell (p := ⟨t, 1, none⟩) (.inl (by simp)) (.slice a n c)
  ⟨q, v, T', h, s, a, n, c, t, rfl, rfl, rfl, d.1.put hb (by omega) hk, d.2.1, d.2.2, b.put hk ht, (hb.set 0 _).set 1 _, ht⟩
/-- The new queue becomes the queue. -/
theorem Pb.next {w W W2 : World} {room : Int} {u x : Value} (b : Pb w W room u) (hb : Blk W2 (w.heap.size + 1) [.int .i64 room, x] 41) (hk : Kept [w.heap.size + 1] W W2) : Pb w W2 room x :=
  ⟨hk.blk b.b0 (by simp), hb, b.k.trans hk (fun _ h => by simp at h) (fun y hy => by simp at hy; right; omega)⟩
/-- What the script leaves. -/
def PlP (w : World) (room : Int) (e : Ending) (w' : World) : Prop :=
  (e = .returned (.tuple #[.pointer none, .agg #[.int .i64 room, .slice none 0 0], .bool true]) ∧ Kept [] w w') ∨
  (1 ≤ room ∧ room ≤ 40 ∧ ∃ q v T h s a n c, e = .returned (.tuple #[.pointer (some ⟨q, 0, none⟩), .agg #[.int .i64 room, .slice a n c], .bool true]) ∧ DoS [] w w' q v room T h s a n c ∧ 0 ≤ T ∧ T ≤ 80)
end Go.Proofs.Ythpdoekeooedfaa
