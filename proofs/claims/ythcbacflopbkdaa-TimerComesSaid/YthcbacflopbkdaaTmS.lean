/- The law's own: its calls, its blocks. -/
import Derived.Test.YthcbacflopbkdaaTmQ
import Derived.Test.YthcbacflopbkdaaOpen
import Derived.Deep.Slices
import Derived.WideShapes
namespace Go.Proofs.Ythcbacflopbkdaa
open Go Go.RowKit Go.Deep Go.OpenShut Go.ChangeShapes Go.WideShapes Go.ChangeAt
theorem doT_any {w0 w : World} {q : Nat} {v : Value} {room now no : Int} {h s : List En} {a : Option Addr} {n c : Nat} (d : DoT w0 w q v room now no h s a n c) (k m t : Int) (h100 : n ≤ 900) (hno : no ≤ 1000000) :
    Calls Try.prog 19 #[.pointer (some ⟨q, 0, none⟩), .agg #[.int .i64 room, .int .i64 now, .slice a n c], .agg #[.int .i64 k, .int .i64 m, .int .i64 t]] w (DoTP w0 w q v room no) := by
  by_cases h0 : k = 0
  · subst h0; exact doT_start d m t h100 hno
  by_cases h1 : k = 1
  · subst h1; exact doT_stop d m t h100 hno
  by_cases h2 : k = 2
  · subst h2; exact doT_tick d m t h100 hno
  by_cases h3 : k = 3
  · subst h3; exact doT_clear d m t h100 hno
  exact doT_other d k m t h0 h1 h2 h3 h100 hno
/-- A list of calls. -/
structure Ops (w : World) (a : Option Addr) (len cap : Nat) : Prop where
  hle : len ≤ cap
  hcell : ∀ i, i < len → ∃ b off x y z, a = some ⟨b, off, none⟩ ∧ w.rangeAt b (off + i * 3) (op3 x y z)
theorem Ops.kept {w w' : World} {a : Option Addr} {len cap : Nat} (h : Ops w a len cap) (hk : Kept [] w w') : Ops w' a len cap :=
  ⟨h.hle, fun i hi => by
    obtain ⟨b, off, x, y, z, h1, h2⟩ := h.hcell i hi
    exact ⟨b, off, x, y, z, h1, hk.range h2 (by simp)⟩⟩
theorem Ops.nil (w : World) : Ops w none 0 0 := ⟨Nat.le_refl _, fun i hi => by omega⟩
set_option maxRecDepth 100000 in
theorem ops_of {H : Type} {enc : TypeId × Value → H} {w : World} {base : Nat} {held : Bool} {spare : Nat → Bool} {fuel : Nat} {v : Value} {x : DataW H × List MemPlace} (h : DataW.trod enc Try.prog w base spare held fuel 30 [v] = some x) : ∃ a n c, v = .slice a n c ∧ Ops w a n c := by
  rcases open_slice Try.underlying30 h with ⟨h1, _⟩ | ⟨a, len, cap, m, n, D, Pl, h1, hb, hl, hm, hmm, _, hall⟩
  · exact ⟨none, 0, 0, by simpa using h1, Ops.nil w⟩
  · have hle : len ≤ m := by rw [hmm]; split <;> omega
    have c3 : Try.prog.cellsOf 39 = 3 := by kernel_rfl
    have ci : Try.prog.cellsOf 3 = 1 := by kernel_rfl
    have ci6 : Try.prog.cellsOf 2 = 1 := by kernel_rfl
    refine ⟨some a, len, cap, by simpa using h1, hl, fun i hi => ?_⟩
    have hel : ∀ i, i < len → ∃ k m t : Int, w.cells? base (a.add (i * 3)) 3 = some (op3 k m t) := by
      intro i hi
      obtain ⟨cs, h2, h3⟩ := hall i (by omega)
      rw [c3] at h2
      have hr : Rd enc Try.prog w base spare held 39 cs := ⟨n, _, h3⟩
      have hlen := hr.len Try.underlying39
      rw [c3] at hlen
      obtain ⟨k, e0, _⟩ := (hr.field Try.underlying39 0 _ rfl).int Try.underlying3
      obtain ⟨m, e1, _⟩ := (hr.field Try.underlying39 1 _ rfl).int Try.underlying3
      obtain ⟨t, e2, _⟩ := (hr.field Try.underlying39 2 _ rfl).int Try.underlying2
      change (cs.drop 0).take (Try.prog.cellsOf 3) = _ at e0
      change (cs.drop 1).take (Try.prog.cellsOf 3) = _ at e1
      change (cs.drop 2).take (Try.prog.cellsOf 2) = _ at e2
      rw [ci] at e0 e1
      rw [ci6] at e2
      have g0 : cs[0]? = some (.int .i64 k) := at_of e0
      have g1 : cs[1]? = some (.int .i64 m) := at_of e1
      have g2 : cs[2]? = some (.int .i64 t) := at_of e2
      refine ⟨k, m, t, ?_⟩
      rw [h2]
      congr 1
      apply List.ext_getElem?
      intro j
      match j with
      | 0 => rw [g0]; rfl
      | 1 => rw [g1]; rfl
      | 2 => rw [g2]; rfl
      | j + 3 => rw [List.getElem?_eq_none (by omega)]; rfl
    have hs : a.spot = none := by
      obtain ⟨_, _, _, h3⟩ := hel 0 (by omega)
      obtain ⟨_, _, h4⟩ := World.cells?_some h3
      have h5 := World.cell?_spot (h4 0 (by omega))
      simpa [Addr.add] using h5
    obtain ⟨b, off, spot⟩ := a
    simp at hs
    subst hs
    obtain ⟨k, m, t, h3⟩ := hel i hi
    obtain ⟨_, _, h4⟩ := World.cells?_some h3
    refine ⟨b, off, k, m, t, rfl, fun j v hv => ?_⟩
    have hj : j < 3 := (List.getElem?_eq_some_iff.1 hv).1
    have h5 := h4 j hj
    rw [Addr.add_mid, Addr.add_mid] at h5
    rw [h5, hv]
/-- The law's two blocks. -/
structure Pb (w W : World) (room now : Int) (v : Value) : Prop where
  b0 : Blk W w.heap.size (set3 0 0 (.slice none 0 0)) 34
  b1 : Blk W (w.heap.size + 1) (set3 room now v) 34
  k : Kept [] w W
theorem Pb.new (w : World) (room : Int) : Pb w ((w.alloc (.cells #[.int .i64 0, .int .i64 0, .slice none 0 0] 34)).alloc (.cells #[.int .i64 room, .int .i64 0, .slice none 0 0] 34)) room 0 (.slice none 0 0) := by
  refine ⟨(Blk.new w (set3 0 0 (.slice none 0 0)) _).alloc _, ?_, ((Kept.refl [] w).alloc _).alloc _⟩
  have h := Blk.new (w.alloc (.cells #[.int .i64 0, .int .i64 0, .slice none 0 0] 34)) (set3 room 0 (.slice none 0 0)) 34
  rw [World.size_alloc] at h
  exact h
theorem Pb.kept {w W W2 : World} {room now : Int} {v : Value} (b : Pb w W room now v) (hk : Kept [] W W2) : Pb w W2 room now v := ⟨hk.blk b.b0 (by simp), hk.blk b.b1 (by simp), b.k.trans0 hk⟩
theorem Pb.size {w W : World} {room now : Int} {u : Value} (b : Pb w W room now u) : w.heap.size + 2 ≤ W.heap.size := b.b1.lt
theorem Pb.next {w W W2 : World} {room now now2 : Int} {u x : Value} (b : Pb w W room now u) (hb : Blk W2 (w.heap.size + 1) (set3 room now2 x) 34) (hk : Kept [w.heap.size + 1] W W2) : Pb w W2 room now2 x :=
  ⟨hk.blk b.b0 (by simp), hb, b.k.trans hk (fun _ h => by simp at h) (fun y hy => by simp at hy; right; omega)⟩
theorem ret_tct {P : Program} {w : World} {fn : Func} {p q r : Tmp} {ty : TypeId} (h : fn.results = #[.tmp q, .cell p ty, .tmp r]) (tmps : Array Value) (g : Nat) (T : TypeId) (xs : List Value) (u v : Value) (d : TypeDesc)
    (hp : tmps.getD p undef = .pointer (some ⟨g, 0, none⟩)) (hq : tmps.getD q undef = u) (hr : tmps.getD r undef = v) (hb : Blk w g xs T)
    (hu : P.underlying ty = some d) (hd : (match d with | .struct _ | .array _ _ => true | _ => false) = true) (hi : (P.info? ty).map (·.size) = some xs.length) :
    (results fn tmps).run P w = .ok (.tuple #[u, .agg xs.toArray, v]) w := by
  have hp' : tmps[p]?.getD undef = .pointer (some ⟨g, 0, none⟩) := by simpa using hp
  have hq' : tmps[q]?.getD undef = u := by simpa using hq
  have hr' : tmps[r]?.getD undef = v := by simpa using hr
  simp [results, h, hp', hq', hr', asAddr, run_loadVar_row w g T ty xs.toArray (0, 0) d hb hu hd (by simpa using hi)]
theorem blk_k {w w1 : World} {q b : Nat} {v : Value} {room now no : Int} {h : List En} {T : TypeId} {xs : List Value} (hb : Blk w b xs T) (s : Ts w q v room now no h) (hk : Kept (q :: v.ownBlock.toList) w w1) (h1 : 65 ≠ T) (h2 : 62 ≠ T) : Blk w1 b xs T :=
  hk.blk hb (fun hm => by
    rcases List.mem_cons.1 hm with rfl | hm
    · exact blk_ne s.hq hb h1 rfl
    · exact own_neT s.own (by simpa using hm) hb h2 rfl)
theorem Pb.ts {w W W2 : World} {room now rm nw no : Int} {u v : Value} {q : Nat} {h : List En} (b : Pb w W room now u) (s : Ts W q v rm nw no h) (hk : Kept (q :: v.ownBlock.toList) W W2) (k : Kept [] w W2) : Pb w W2 room now u :=
  ⟨blk_k b.b0 s hk (by decide) (by decide), blk_k b.b1 s hk (by decide) (by decide), k⟩
theorem Pb.put {w W W2 : World} {room now : Int} {u : Value} {t : Nat} (b : Pb w W room now u) (hk : Kept [t] W W2) (ht : w.heap.size + 2 ≤ t) : Pb w W2 room now u :=
  ⟨hk.blk b.b0 (by simp; omega), hk.blk b.b1 (by simp; omega), b.k.trans hk (fun _ h => by simp at h) (fun x hx => by simp at hx; right; omega)⟩
/-- What a call leaves in the round. -/
def R12 (w wx : World) (q : Nat) (room now no : Int) (u s11 s12 : Value) : Prop :=
  ∃ v now' no' h s a n c t, s11 = .pointer (some ⟨t, 0, none⟩) ∧ s12 = .bool true ∧ DoT w wx q v room now' no' h s a n c ∧ no' ≤ no + 1 ∧ Blk wx t (set3 room now' (.slice a n c)) 34 ∧ w.heap.size + 2 ≤ t ∧ Pb w wx room now u
theorem R12.late {w w2 : World} {q : Nat} {v : Value} {room now now' no no' : Int} {h s : List En} {a : Option Addr} {n c : Nat} {u : Value} (d : DoT w w2 q v room now' no' h s a n c) (hn : no' ≤ no + 1) (b : Pb w w2 room now u) :
    R12 w (w2.alloc (.cells #[.int .i64 room, .int .i64 now', .slice a n c] 34)) q room now no u (.pointer (some ⟨w2.heap.size, 0, none⟩)) (.bool true) :=
  ⟨v, now', no', h, s, a, n, c, w2.heap.size, rfl, rfl, d.kept ((Kept.refl [] w2).alloc _), hn, Blk.new w2 (set3 room now' (.slice a n c)) _, b.size, b.kept ((Kept.refl [] w2).alloc _)⟩
theorem R12.early {w w2 : World} {q t : Nat} {v : Value} {room now now' no no' : Int} {h s : List En} {a : Option Addr} {n c : Nat} {u : Value} (d : DoT w w2 q v room now' no' h s a n c) (hn : no' ≤ no + 1) (b : Pb w w2 room now u) (hb : Blk w2 t (set3 0 0 (.slice none 0 0)) 34) (ht : w.heap.size + 2 ≤ t) :
    R12 w (((w2.setCell ⟨t, 0, none⟩ (.int .i64 room)).setCell ⟨t, 1, none⟩ (.int .i64 now')).setCell ⟨t, 2, none⟩ (.slice a n c)) q room now no u (.pointer (some ⟨t, 0, none⟩)) (.bool true) :=
  have hk := (((Kept.refl [t] w2).setCell (p := ⟨t, 0, none⟩) (.inl (by simp)) (.int .i64 room)).setCell (p := ⟨t, 1, none⟩) (.inl (by simp)) (.int .i64 now')).setCell (p := ⟨t, 2, none⟩) (.inl (by simp)) (.slice a n c)
  ⟨v, now', no', h, s, a, n, c, t, rfl, rfl, d.put hb (by omega) hk, hn, ((hb.set 0 _).set 1 _).set 2 _, ht, b.put hk ht⟩
/-- What the script leaves: q is a timer made since the two blocks W were laid. -/
def PlP (w : World) (room : Int) (e : Ending) (w' : World) : Prop :=
  (e = .returned (.tuple #[.pointer none, .agg #[.int .i64 room, .int .i64 0, .slice none 0 0], .bool true]) ∧ Kept [] w w') ∨
  (1 ≤ room ∧ room ≤ 40 ∧ ∃ q v now no h s a n c, e = .returned (.tuple #[.pointer (some ⟨q, 0, none⟩), .agg #[.int .i64 room, .int .i64 now, .slice a n c], .bool true]) ∧ DoT w w' q v room now no h s a n c ∧ no ≤ 80)
end Go.Proofs.Ythcbacflopbkdaa
