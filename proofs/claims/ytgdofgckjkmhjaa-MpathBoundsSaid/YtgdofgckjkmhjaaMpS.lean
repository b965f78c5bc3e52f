/- A sender of datagrams by two ways: its state, in memory. -/
import Derived.Test.YtgdofgckjkmhjaaMpB
import Derived.Test.YtgdofgckjkmhjaaMpOr
import Derived.Test.YtgdofgckjkmhjaaPathY
import Derived.Test.YtgdofgckjkmhjaaQdC
namespace Go.Proofs.Ytgdofgckjkmhjaa.Mp
open Go Go.RowKit
structure Ms where
  p0 : Pa
  p1 : Pa
  rt : Nat
  burst : Int
  held : Int
  spent : Int
  full : Int
  room : Int
  turns : Int
  s : List Qd.It
  sess : Nat
  now : Nat
  drop : Int
  hold : Int
def sdc (m : Ms) (b q : Nat) : List Value := pac m.p0 ++ pac m.p1 ++ [.pointer (some ⟨b, 0, none⟩), .pointer (some ⟨q, 0, none⟩), .int .u32 m.sess, .int .u32 m.now, .int .i64 m.drop, .int .i64 m.hold]
def Ms.way (m : Ms) (i : Nat) : Pa := if i = 0 then m.p0 else m.p1
def Ms.setW (m : Ms) (i : Nat) (p : Pa) : Ms := if i = 0 then { m with p0 := p } else { m with p1 := p }
theorem two {i : Nat} (h : i < 2) : i = 0 ∨ i = 1 := by omega
theorem part_way (m : Ms) (b q : Nat) {i : Nat} (hi : i < 2) : Part (sdc m b q) (i * 15) (pac (m.way i)) := by
  rcases two hi with rfl | rfl
  · exact Part.sub (xs := sdc m b q) (o := 0) (ys := []) (bs := pac m.p0) (cs := pac m.p1 ++ [.pointer (some ⟨b, 0, none⟩), .pointer (some ⟨q, 0, none⟩), .int .u32 m.sess, .int .u32 m.now, .int .i64 m.drop, .int .i64 m.hold]) (Part.all _)
  · exact Part.sub (xs := sdc m b q) (o := 0) (ys := pac m.p0) (bs := pac m.p1) (cs := [.pointer (some ⟨b, 0, none⟩), .pointer (some ⟨q, 0, none⟩), .int .u32 m.sess, .int .u32 m.now, .int .i64 m.drop, .int .i64 m.hold]) (Part.all _)
theorem set_way (m : Ms) (b q : Nat) {i : Nat} (hi : i < 2) (p : Pa) : setAll (sdc m b q) (i * 15) (pac p) = sdc (m.setW i p) b q := by
  have hl : ∀ p1 p2 : Pa, (pac p1).length = (pac p2).length := fun _ _ => rfl
  rcases two hi with rfl | rfl
  · have h := setAll_sub (xs := sdc m b q) (o := 0) (ys := []) (bs := pac m.p0) (bs' := pac p) (cs := pac m.p1 ++ [.pointer (some ⟨b, 0, none⟩), .pointer (some ⟨q, 0, none⟩), .int .u32 m.sess, .int .u32 m.now, .int .i64 m.drop, .int .i64 m.hold]) (Part.all _) (hl _ _)
    refine Eq.trans h ?_
    rw [setAll_all _ _ (by simp only [sdc, List.length_append, List.length_cons, List.length_nil, pac_len])]
    simp only [sdc, Ms.setW, if_pos, List.nil_append, List.append_assoc]
  · have h := setAll_sub (xs := sdc m b q) (o := 0) (ys := pac m.p0) (bs := pac m.p1) (bs' := pac p) (cs := [.pointer (some ⟨b, 0, none⟩), .pointer (some ⟨q, 0, none⟩), .int .u32 m.sess, .int .u32 m.now, .int .i64 m.drop, .int .i64 m.hold]) (Part.all _) (hl _ _)
    refine Eq.trans h ?_
    rw [setAll_all _ _ (by simp only [sdc, List.length_append, List.length_cons, List.length_nil, pac_len])]
    rfl
/-- Where a datagram's data lie: in none of these blocks. -/
structure Bd (w : World) (bad : List Nat) (x : Qd.Dv) : Prop where
  bts : Bts w x.p x.d.data.length x.c x.d.data
  ne : ∀ g o, x.p = some (⟨g, o, none⟩ : Addr) → x.d.data ≠ [] → g ∉ bad
theorem Bts.but {w w' : World} {bs : List Nat} {a : Option Addr} {n c : Nat} {l : List UInt8} (h : Bts w a n c l) (hk : Kept bs w w') (hn : ∀ g o, a = some (⟨g, o, none⟩ : Addr) → l ≠ [] → g ∉ bs) : Bts w' a n c l :=
  ⟨h.hlen, h.hle, h.htop, h.hnil, fun i hi => by
    obtain ⟨b, off, h1, h2⟩ := h.hcell i hi
    refine ⟨b, off, h1, ?_⟩
    rw [hk.cell (p := ⟨b, off + i, none⟩) (block_lt_of_cell h2) (hn b off h1 (fun e => by rw [e] at hi; simp at hi))]
    exact h2⟩
theorem Bd.lt {w : World} {bad : List Nat} {x : Qd.Dv} (h : Bd w bad x) {g o : Nat} (hp : x.p = some (⟨g, o, none⟩ : Addr)) (hd : x.d.data ≠ []) : g < w.heap.size := by
  obtain ⟨b, off, h1, h2⟩ := h.bts.hcell 0 (by cases hq : x.d.data with | nil => exact absurd hq hd | cons _ _ => simp)
  rw [hp] at h1
  simp only [Option.some.injEq, Addr.mk.injEq, and_true] at h1
  obtain ⟨rfl, rfl⟩ := h1
  exact block_lt_of_cell h2
/-- What is written leaves the data; other blocks are the own ones then. -/
theorem Bd.next {w w' : World} {bad bad2 bs : List Nat} {x : Qd.Dv} (h : Bd w bad x) (hk : Kept bs w w') (h1 : ∀ g, g ∈ bs → g ∈ bad ∨ w.heap.size ≤ g) (h2 : ∀ g, g ∈ bad2 → g ∈ bad ∨ w.heap.size ≤ g) : Bd w' bad2 x :=
  ⟨Bts.but h.bts hk fun g o hp hd hg => by
    rcases h1 g hg with h3 | h3
    · exact h.ne g o hp hd h3
    · have := h.lt hp hd; omega, fun g o hp hd hg => by
    rcases h2 g hg with h3 | h3
    · exact h.ne g o hp hd h3
    · have := h.lt hp hd; omega⟩
/-- The blocks that are the sender's. -/
def own (s b q : Nat) (v : Value) : List Nat := s :: b :: q :: v.ownBlock.toList
structure Sr (w : World) (s b q : Nat) (v : Value) (m : Ms) : Prop where
  hs : Blk w s (sdc m b q) 64
  hb : Blk w b (bkc m.rt m.burst m.held m.spent m.full) 76
  hq : ∃ h, Qd.Qs w q v m.room m.turns h ∧ Qd.Rp h m.turns m.s
  dat : ∀ x, x ∈ m.s → Bd w (own s b q v) x.v
theorem blk_ne {w : World} {a b : Nat} {xs ys : List Value} {T U : TypeId} (h : Blk w a xs T) (g : Blk w b ys U) (hT : T ≠ U) : a ≠ b := by
  rintro rfl
  unfold Blk at h g
  rw [h] at g
  simp only [Option.some.injEq, Obj.cells.injEq] at g
  exact hT g.2.1
theorem own_ne {w : World} {base size b : Nat} {e T : TypeId} {v : Value} {n : Nat} {xs ys : List Value} (h : w.ownsRow base e size v n xs) (hb : Blk w b ys T) (hT : T ≠ e) : v.ownBlock ≠ some b := by
  rcases h.2 with ⟨rfl, rfl⟩ | ⟨g, cap, cur, rfl, _, hg, _⟩
  · simp [Value.ownBlock]
  · intro e1
    simp only [Value.ownBlock, Option.some.injEq] at e1
    subst e1
    unfold Blk at hb
    rw [hg] at hb
    simp only [Option.some.injEq, Obj.cells.injEq] at hb
    exact hT hb.2.1.symm
structure Ne (s b q : Nat) (v : Value) : Prop where
  sb : s ≠ b
  sq : s ≠ q
  bq : b ≠ q
  vs : v.ownBlock ≠ some s
  vb : v.ownBlock ≠ some b
  vq : v.ownBlock ≠ some q
theorem Sr.ne {w : World} {s b q : Nat} {v : Value} {m : Ms} (r : Sr w s b q v m) : Ne s b q v := by
  obtain ⟨h, hq, _⟩ := r.hq
  exact ⟨blk_ne r.hs r.hb (by decide), blk_ne r.hs hq.hq (by decide), blk_ne r.hb hq.hq (by decide), own_ne hq.own r.hs (by decide), own_ne hq.own r.hb (by decide), hq.ne⟩
theorem qs_kept {w w' : World} {q : Nat} {v : Value} {room turns : Int} {h : List Qd.It} {bs : List Nat} (s : Qd.Qs w q v room turns h) (hk : Kept bs w w') (h1 : q ∉ bs) (h2 : ∀ g, v.ownBlock = some g → g ∉ bs) : Qd.Qs w' q v room turns h :=
  ⟨hk.blk s.hq h1, Qd.own_kept3 s.own (fun g cs hv hg => hk.block g (Array.getElem?_eq_some_iff.1 hg).1 (h2 g hv)), s.ne⟩
theorem Sr.kept {w w' : World} {s b q : Nat} {v : Value} {m : Ms} (r : Sr w s b q v m) (hk : Kept [] w w') : Sr w' s b q v m := by
  obtain ⟨h, hq, hr⟩ := r.hq
  exact ⟨hk.blk r.hs (by simp), hk.blk r.hb (by simp), ⟨h, qs_kept hq hk (by simp) (by simp), hr⟩, fun x hx => (r.dat x hx).next hk (by simp) (fun g hg => .inl hg)⟩
/-- The sender's own cells change. -/
theorem Sr.cells {w w' : World} {s b q : Nat} {v : Value} {m m' : Ms} (r : Sr w s b q v m) (hk : Kept [s] w w') (hb : Blk w' s (sdc m' b q) 64)
    (h1 : m'.rt = m.rt ∧ m'.burst = m.burst ∧ m'.held = m.held ∧ m'.spent = m.spent ∧ m'.full = m.full ∧ m'.room = m.room ∧ m'.turns = m.turns ∧ m'.s = m.s) : Sr w' s b q v m' := by
  obtain ⟨h, hq, hr⟩ := r.hq
  have n := r.ne
  obtain ⟨e1, e2, e3, e4, e5, e6, e7, e8⟩ := h1
  refine ⟨hb, ?_, ⟨h, ?_, ?_⟩, ?_⟩
  · rw [e1, e2, e3, e4, e5]
    exact hk.blk r.hb (by have := n.sb; simp; omega)
  · rw [e6, e7]
    exact qs_kept hq hk (by have := n.sq; simp; omega) (fun g hg => by have := n.vs; rw [hg] at this; simpa using this)
  · rw [e7, e8]
    exact hr
  · intro x hx
    rw [e8] at hx
    exact (r.dat x hx).next hk (fun g hg => .inl (by simp at hg; subst hg; simp [own])) (fun g hg => .inl hg)
theorem setW_same (m : Ms) (i : Nat) (p : Pa) : (m.setW i p).rt = m.rt ∧ (m.setW i p).burst = m.burst ∧ (m.setW i p).held = m.held ∧ (m.setW i p).spent = m.spent ∧ (m.setW i p).full = m.full ∧ (m.setW i p).room = m.room ∧ (m.setW i p).turns = m.turns ∧ (m.setW i p).s = m.s := by
  unfold Ms.setW
  split <;> exact ⟨rfl, rfl, rfl, rfl, rfl, rfl, rfl, rfl⟩
theorem Sr.way {w w' : World} {s b q : Nat} {v : Value} {m : Ms} (r : Sr w s b q v m) {i : Nat} (hi : i < 2) (p : Pa) (hk : Kept [s] w w') (hb : Blk w' s (setAll (sdc m b q) (i * 15) (pac p)) 64) : Sr w' s b q v (m.setW i p) :=
  r.cells hk (by rw [← set_way m b q hi p]; exact hb) (setW_same m i p)
/-- The bucket's cells change. -/
theorem Sr.bucket {w w' : World} {s b q : Nat} {v : Value} {m : Ms} (r : Sr w s b q v m) (held spent full : Int) (hk : Kept [b] w w') (hb : Blk w' b (bkc m.rt m.burst held spent full) 76) : Sr w' s b q v { m with held := held, spent := spent, full := full } := by
  obtain ⟨h, hq, hr⟩ := r.hq
  have n := r.ne
  exact ⟨hk.blk r.hs (by have := n.sb; simp; omega), hb, ⟨h, qs_kept hq hk (by have := n.bq; simp; omega) (fun g hg => by have := n.vb; rw [hg] at this; simpa using this), hr⟩,
    fun x hx => (r.dat x hx).next hk (fun g hg => .inl (by simp at hg; subst hg; simp [own])) (fun g hg => .inl hg)⟩
/-- Bounds of its numbers. -/
structure Ok (m : Ms) (k t : Int) : Prop where
  p0 : PaOk m.p0 k t
  p1 : PaOk m.p1 k t
  rt : 1 ≤ m.rt ∧ m.rt ≤ 1048576
  burst : 1 ≤ m.burst ∧ m.burst ≤ 16777216
  held : 0 ≤ m.held ∧ m.held ≤ m.burst
  spent : Fits m.spent
  full : Fits m.full
  room : 1 ≤ m.room ∧ m.room ≤ 256
  turns : 0 ≤ m.turns ∧ m.turns ≤ k
  len : (m.s.length : Int) ≤ m.room
  sess : m.sess < 4294967296
  now : m.now < 4294967296
  drop : 0 ≤ m.drop ∧ m.drop ≤ k
  hold : 0 ≤ m.hold ∧ m.hold ≤ t
  its : ∀ x, x ∈ m.s → chk x.v.d = 0 ∧ x.v.d.data.length ≤ 1200 ∧ x.v.d.sess = m.sess ∧ x.v.d.path = 0
theorem Ok.way {m : Ms} {k t : Int} (o : Ok m k t) (i : Nat) : PaOk (m.way i) k t := by
  unfold Ms.way
  split
  · exact o.p0
  · exact o.p1
/-- The better way first. -/
def ordM (m : Ms) : List Nat := if keyI m.p1 < keyI m.p0 then [1, 0] else [0, 1]
theorem srt_ord (m : Ms) (l : List Nat) (h : Srt (keyF [m.p0, m.p1]) 2 l) : l = ordM m := by
  refine h.eq ?_
  have k0 : keyF [m.p0, m.p1] 0 = keyI m.p0 := rfl
  have k1 : keyF [m.p0, m.p1] 1 = keyI m.p1 := rfl
  unfold ordM
  split
  · rename_i hlt
    refine ⟨?_, fun x => by simp; omega⟩
    rw [List.pairwise_cons]
    refine ⟨fun x hx => ?_, by simp⟩
    simp only [List.mem_cons, List.not_mem_nil, or_false] at hx
    subst hx
    exact .inl (by rw [k0, k1]; exact hlt)
  · rename_i hlt
    refine ⟨?_, fun x => by simp; omega⟩
    rw [List.pairwise_cons]
    refine ⟨fun x hx => ?_, by simp⟩
    simp only [List.mem_cons, List.not_mem_nil, or_false] at hx
    subst hx
    unfold lex
    rw [k0, k1]
    omega
theorem Sr.ways {w : World} {s b q : Nat} {v : Value} {m : Ms} (r : Sr w s b q v m) {k t : Int} (o : Ok m k t) (hk : 65 * k ≤ 1000000) : Ways w 2 s (sdc m b q) 64 [m.p0, m.p1] :=
  ⟨r.hs, fun i hi => by
    have h := part_way m b q hi
    rcases two hi with rfl | rfl
    · exact h
    · exact h, fun i hi => by
    rcases two hi with rfl | rfl
    · exact o.p0.s.mono hk
    · exact o.p1.s.mono hk⟩
end Go.Proofs.Ytgdofgckjkmhjaa.Mp
