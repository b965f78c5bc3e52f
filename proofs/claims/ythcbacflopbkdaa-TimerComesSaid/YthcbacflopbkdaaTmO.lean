/- One call at both timers: what both are like. -/
import Derived.Test.YthcbacflopbkdaaTmN
import Derived.Test.YthcbacflopbkdaaTmL
namespace Go.Proofs.Ythcbacflopbkdaa
open Go Go.RowKit Go.Shelf
theorem blk_ne {w : World} {b c : Nat} {xs ys : List Value} {S T : TypeId} (h : Blk w b xs S) (k : Blk w c ys T) (hT : S ≠ T) : b ≠ c := by
  rintro rfl
  unfold Blk at *
  rw [h] at k
  simp only [Option.some.injEq, Obj.cells.injEq] at k
  exact hT k.2.1
theorem own_neT {w : World} {base size g c : Nat} {e T : TypeId} {v : Value} {n : Nat} {xs ys : List Value} (h : w.ownsRow base e size v n xs) (hg : v.ownBlock = some g) (k : Blk w c ys T) (hT : e ≠ T) : g ≠ c := by
  rcases h.2 with ⟨rfl, _⟩ | ⟨g', cap, cur, rfl, _, hg', _⟩
  · simp [Value.ownBlock] at hg
  · simp [Value.ownBlock] at hg
    subst hg
    exact blk_ne (show Blk w g' cur.toList e from hg') k hT
/-- Both timers, made since w0. -/
structure DoT (w0 w : World) (q : Nat) (v : Value) (room now no : Int) (h s : List En) (a : Option Addr) (n c : Nat) : Prop where
  k : Kept [] w0 w
  hq : w0.heap.size ≤ q
  hv : ∀ g, v.ownBlock = some g → w0.heap.size ≤ g
  ts : Ts w q v room now no h
  tp : Tp h s now no
  ls : L2 w 46 a (s.map pr)
  hn : s.length = n
  hc : n ≤ c
  hr : (s.length : Int) ≤ room
theorem DoT.kept {w0 w w2 : World} {q : Nat} {v : Value} {room now no : Int} {h s : List En} {a : Option Addr} {n c : Nat} (d : DoT w0 w q v room now no h s a n c) (hk : Kept [] w w2) : DoT w0 w2 q v room now no h s a n c :=
  ⟨d.k.trans0 hk, d.hq, d.hv, d.ts.kept hk, d.tp, d.ls.kept hk, d.hn, d.hc, d.hr⟩
/-- The document's list stays, whatever the program's timer does. -/
theorem l2_ts {w w1 : World} {q : Nat} {v v' : Value} {room now no : Int} {h : List En} {a : Option Addr} {l : List (Int × Int)} (hl : L2 w 46 a l) (s : Ts w q v room now no h) (hk : KeptT w w1 q v v') : L2 w1 46 a l :=
  hl.frame hk.1 (fun b hb xs hB => by
    rcases List.mem_cons.1 hb with rfl | hb
    · exact blk_ne s.hq hB (by decide) rfl
    · exact own_neT s.own (by simpa using hb) hB (by decide) rfl)
theorem DoT.step {w0 w w1 : World} {q : Nat} {v v' : Value} {room now no now' no' : Int} {h s h' s' : List En} {a a' : Option Addr} {n c n' c' : Nat} (d : DoT w0 w q v room now no h s a n c) (hk : KeptT w w1 q v v') (ts : Ts w1 q v' room now' no' h') (tp : Tp h' s' now' no') (ls : L2 w1 46 a' (s'.map pr)) (hn : s'.length = n') (hc : n' ≤ c') (hr : (s'.length : Int) ≤ room) : DoT w0 w1 q v' room now' no' h' s' a' n' c' :=
  ⟨d.k.trans hk.1 (fun _ h => h) (fun x hx => by
    rcases List.mem_cons.1 hx with rfl | hx
    · exact .inr d.hq
    · exact .inr (d.hv x (by simpa using hx))), d.hq, fun g hg => by
    rcases hk.2 with e | e | ⟨g', e, hg'⟩
    · exact d.hv g (by rw [← e]; exact hg)
    · rw [e] at hg; simp at hg
    · rw [e] at hg
      simp at hg
      have := d.k.size
      omega, ts, tp, ls, hn, hc, hr⟩
abbrev op3 (k m t : Int) : List Value := [.int .i64 k, .int .i64 m, .int .i64 t]
/-- The three boxes of do. -/
structure Bo (w W : World) (xs ys zs : List Value) : Prop where
  b0 : Blk W w.heap.size xs 34
  b1 : Blk W (w.heap.size + 1) ys 39
  b2 : Blk W (w.heap.size + 2) zs 34
theorem Bo.new (w : World) (xs ys zs : List Value) : Bo w (((w.alloc (.cells xs.toArray 34)).alloc (.cells ys.toArray 39)).alloc (.cells zs.toArray 34)) xs ys zs := by
  refine ⟨((Blk.new w xs _).alloc _).alloc _, ?_, ?_⟩
  · have h := (Blk.new (w.alloc (.cells xs.toArray 34)) ys 39).alloc (.cells zs.toArray 34)
    rw [World.size_alloc] at h
    exact h
  · have h := Blk.new ((w.alloc (.cells xs.toArray 34)).alloc (.cells ys.toArray 39)) zs 34
    rw [World.size_alloc, World.size_alloc] at h
    exact h
theorem Bo.kept {w W W2 : World} {xs ys zs : List Value} (h : Bo w W xs ys zs) (hk : Kept [] W W2) : Bo w W2 xs ys zs := ⟨hk.blk h.b0 (by simp), hk.blk h.b1 (by simp), hk.blk h.b2 (by simp)⟩
theorem Bo.size {w W : World} {xs ys zs : List Value} (h : Bo w W xs ys zs) : w.heap.size + 3 ≤ W.heap.size := h.b2.lt
/-- Blocks of other types stay, whatever the program's timer does. -/
theorem blk_ts {w w1 : World} {q b : Nat} {v v' : Value} {room now no : Int} {h : List En} {T : TypeId} {xs : List Value} (hb : Blk w b xs T) (s : Ts w q v room now no h) (hk : KeptT w w1 q v v') (h1 : 65 ≠ T) (h2 : 62 ≠ T) : Blk w1 b xs T :=
  hk.1.blk hb (fun hm => by
    rcases List.mem_cons.1 hm with rfl | hm
    · exact blk_ne s.hq hb h1 rfl
    · exact own_neT s.own (by simpa using hm) hb h2 rfl)
theorem Bo.ts {w W W1 : World} {q : Nat} {v v' : Value} {room now no : Int} {h : List En} {xs ys zs : List Value} (hb : Bo w W xs ys zs) (s : Ts W q v room now no h) (hk : KeptT W W1 q v v') : Bo w W1 xs ys zs :=
  ⟨blk_ts hb.b0 s hk (by decide) (by decide), blk_ts hb.b1 s hk (by decide) (by decide), blk_ts hb.b2 s hk (by decide) (by decide)⟩
/-- What do leaves. -/
def DoTP (w0 w : World) (q : Nat) (v0 : Value) (room no : Int) (e : Ending) (w' : World) : Prop :=
  ∃ v now' no' h s a n c, e = .returned (.tuple #[.agg #[.int .i64 room, .int .i64 now', .slice a n c], .bool true]) ∧ DoT w0 w' q v room now' no' h s a n c ∧ no' ≤ no + 1 ∧ Kept (q :: v0.ownBlock.toList) w w'
theorem kept_qs {bs : List Nat} {w A C : World} {b : Nat} (h : Kept bs w A) (k : Kept [b] A C) (hb : w.heap.size ≤ b) : Kept bs w C := h.trans k (fun _ h => h) (fun x hx => by simp at hx; right; omega)
theorem kept_q0 {bs : List Nat} {w A C : World} (h : Kept [] w A) (k : Kept bs A C) : Kept bs w C := h.trans k (by simp) (fun x hx => .inl hx)
theorem DoT.put {w0 w w2 : World} {q b : Nat} {v : Value} {room now no : Int} {h s : List En} {a : Option Addr} {n c : Nat} {xs : List Value} (d : DoT w0 w q v room now no h s a n c) (hb : Blk w b xs 34) (h0 : w0.heap.size ≤ b) (hk : Kept [b] w w2) : DoT w0 w2 q v room now no h s a n c := by
  have hbq : b ≠ q := fun e => blk_ne (e ▸ hb) d.ts.hq (by decide) rfl
  have hbg : ∀ g, v.ownBlock = some g → g ≠ b := fun g hg => own_neT d.ts.own hg hb (by decide)
  refine ⟨d.k.trans hk (fun _ h => h) (fun x hx => by simp at hx; right; omega), d.hq, d.hv, ⟨hk.blk d.ts.hq (by simp; exact Ne.symm hbq), ?_, d.ts.ne⟩, d.tp, d.ls.frame hk (fun x hx xs2 hB => by
    simp at hx
    subst hx
    exact blk_ne hb hB (by decide) rfl), d.hn, d.hc, d.hr⟩
  exact own_kept3 d.ts.own (fun g _ hg hc => hk.block g (Array.getElem?_eq_some_iff.1 hc).1 (by simp; exact hbg g hg))
/-- Start at both. -/
theorem start_both {w0 w w1 : World} {q : Nat} {v : Value} {room now no k ticks : Int} {h s : List En} {a : Option Addr} {n c : Nat} (d : DoT w0 w q v room now no h s a n c) {a2 : Option Addr} {n2 c2 : Nat} {e : Ending} (hS : StartP w q v room now no k ticks h e w1) (hl : L2 w 46 a2 (startR room now (s.map pr) k ticks).1) (hn2 : (startR room now (s.map pr) k ticks).1.length = n2) (hc2 : n2 ≤ c2) :
    ∃ v' no' h' s', KeptT w w1 q v v' ∧ DoT w0 w1 q v' room now no' h' s' a2 n2 c2 ∧ e = .returned (.int .i64 (startR room now (s.map pr) k ticks).2) ∧ no' ≤ no + 1 := by
  obtain ⟨v', no', h', hk, ts, hcase⟩ := hS
  have hl2 := l2_ts hl d.ts hk
  have hlen := d.tp.len
  have hn0 := d.tp.now0
  have hn1 := d.tp.now1
  rcases hcase with ⟨hb, rfl, rfl, rfl⟩ | ⟨h1, h2, hka, hrl, rfl, rfl, rfl⟩ | ⟨h1, h2, hka, hrl, rfl, rfl, rfl⟩ | ⟨h1, h2, i, hka, rfl, rfl, rfl⟩
  · have e1 : startR room now (s.map pr) k ticks = (s.map pr, 1) := by unfold startR; rw [if_pos hb]
    rw [e1] at hl2 hn2 ⊢
    exact ⟨v', _, _, s, hk, d.step hk ts d.tp hl2 (by simpa using hn2) hc2 d.hr, rfl, by omega⟩
  · have e1 : startR room now (s.map pr) k ticks = (s.map pr, 2) := by
      unfold startR
      rw [if_neg (by omega), d.tp.none hka, if_pos ⟨rfl, by simp; omega⟩]
    rw [e1] at hl2 hn2 ⊢
    exact ⟨v', _, _, s, hk, d.step hk ts d.tp hl2 (by simpa using hn2) hc2 d.hr, rfl, by omega⟩
  · have e1 : startR room now (s.map pr) k ticks = ((insE ⟨k, now + ticks, no + 1⟩ s).map pr, 0) := by
      unfold startR
      rw [if_neg (by omega), d.tp.none hka, if_neg (by simp; omega), ← ins_map]
      rfl
    rw [e1] at hl2 hn2 ⊢
    refine ⟨v', _, _, _, hk, d.step hk ts (d.tp.add (keyAt_none hka) (by omega) (by omega)) hl2 (by simpa using hn2) hc2 ?_, rfl, by omega⟩
    rw [(ins_perm _ s).length_eq]
    simp
    omega
  · have hlt : (without k (s.map pr)).length < (s.map pr).length := by
      rw [without_map, List.length_map, List.length_map]
      have h3 := (d.tp.erase hka).len
      have h4 := (keyAt_some hka).1
      rw [List.length_eraseIdx, if_pos h4] at h3
      omega
    have e1 : startR room now (s.map pr) k ticks = ((insE ⟨k, now + ticks, no + 1⟩ (s.filter (notKey k))).map pr, 0) := by
      unfold startR
      rw [if_neg (by omega), if_neg (by omega), ← ins_map, without_map]
      rfl
    have tp2 := d.tp.erase hka
    rw [e1] at hl2 hn2 ⊢
    refine ⟨v', _, _, _, hk, d.step hk ts (tp2.add (fun x hx => ?_) (by omega) (by omega)) hl2 (by simpa using hn2) hc2 ?_, rfl, by omega⟩
    · rw [erase_filter hka d.tp.hkeys] at hx
      have := (List.mem_filter.1 hx).2
      simpa [notKey] using this
    · rw [(ins_perm _ _).length_eq]
      have h3 := d.hr
      rw [without_map, List.length_map, List.length_map] at hlt
      simp
      omega
/-- Stop at both. -/
theorem stop_both {w0 w w1 : World} {q : Nat} {v : Value} {room now no k : Int} {h s : List En} {a : Option Addr} {n c : Nat} (d : DoT w0 w q v room now no h s a n c) {a2 : Option Addr} {n2 c2 : Nat} {e : Ending} (hS : StopP w q v room now no k h e w1) (hl : L2 w 46 a2 (without k (s.map pr))) (hn2 : (without k (s.map pr)).length = n2) (hc2 : n2 ≤ c2) :
    ∃ v' h' s', KeptT w w1 q v v' ∧ DoT w0 w1 q v' room now no h' s' a2 n2 c2 ∧ e = .returned (.bool (decide ((without k (s.map pr)).length < (s.map pr).length))) := by
  obtain ⟨v', h', hk, ts, hcase⟩ := hS
  have hl2 := l2_ts hl d.ts hk
  rcases hcase with ⟨hka, rfl, rfl⟩ | ⟨i, hka, rfl, rfl⟩
  · rw [d.tp.none hka] at hl2 hn2 ⊢
    exact ⟨v', _, s, hk, d.step hk ts d.tp hl2 (by simpa using hn2) hc2 d.hr, by simp⟩
  · have hlt : (s.filter (notKey k)).length < s.length := by
      have h3 := (d.tp.erase hka).len
      have h4 := (keyAt_some hka).1
      have h5 := d.tp.len
      rw [List.length_eraseIdx, if_pos h4] at h3
      omega
    rw [without_map] at hl2 hn2 ⊢
    refine ⟨v', _, _, hk, d.step hk ts (d.tp.erase hka) hl2 (by simpa using hn2) hc2 (by have := d.hr; omega), ?_⟩
    rw [decide_eq_true (by simpa using hlt)]
/-- Tick at both. -/
theorem tick_both {w0 w w1 : World} {q : Nat} {v : Value} {room now no ticks : Int} {h s : List En} {a : Option Addr} {n c : Nat} (d : DoT w0 w q v room now no h s a n c) {a2 b2 : Option Addr} {n2 c2 m2 : Nat} {e : Ending} (hS : TickP w q v room now no ticks s e w1) (hl : L2 w 46 a2 (leftR (nowT now ticks) (s.map pr))) (hn2 : (leftR (nowT now ticks) (s.map pr)).length = n2) (hc2 : n2 ≤ c2) (hm : (cameR (nowT now ticks) (s.map pr)).length = m2) (hi : IzT w b2 (cameR (nowT now ticks) (s.map pr))) :
    ∃ v' h' s' b3 d3, KeptT w w1 q v v' ∧ DoT w0 w1 q v' room (nowT now ticks) no h' s' a2 n2 c2 ∧ e = .returned (.slice b3 m2 d3) ∧ Iz w1 b3 (cameR (nowT now ticks) (s.map pr)) ∧ IzT w1 b2 (cameR (nowT now ticks) (s.map pr)) := by
  obtain ⟨v', b3, d3, hk, ts, rfl, _, hik, _⟩ := hS
  have hl2 := l2_ts hl d.ts hk
  have hi2 : IzT w1 b2 (cameR (nowT now ticks) (s.map pr)) := hi.frame hk.1 (fun b hb xs hB => by
    rcases List.mem_cons.1 hb with rfl | hb
    · exact blk_ne d.ts.hq hB (by decide) rfl
    · exact own_neT d.ts.own (by simpa using hb) hB (by decide) rfl)
  obtain ⟨e1, e2⟩ := due_map s (nowT now ticks) d.tp.sorted
  have e3 : leftR (nowT now ticks) (s.map pr) = (s.drop (dueN (nowT now ticks) s)).map pr := e2.symm
  have e4 : cameR (nowT now ticks) (s.map pr) = (s.take (dueN (nowT now ticks) s)).map (·.key) := e1.symm
  have hdl := dueN_le (nowT now ticks) s
  rw [e3] at hl2 hn2
  rw [e4] at hi2 hm ⊢
  have hm2 : dueN (nowT now ticks) s = m2 := by rw [← hm]; simp; omega
  refine ⟨v', _, _, b3, d3, hk, d.step hk ts (d.tp.tick ticks) hl2 (by simpa using hn2) hc2 ?_, by rw [hm2], hik, hi2⟩
  have := d.hr
  rw [List.length_drop]
  omega
/-- Clear at both. -/
theorem clear_both {w0 w w1 : World} {q : Nat} {v : Value} {room now no : Int} {h s : List En} {a : Option Addr} {n c : Nat} (d : DoT w0 w q v room now no h s a n c) (hk : KeptT w w1 q v (.slice none 0 0)) (ts : Ts w1 q (.slice none 0 0) room now no []) : DoT w0 w1 q (.slice none 0 0) room now no [] [] none 0 0 :=
  d.step hk ts ⟨.refl _, .nil, .nil, .nil, by simp, by simp, d.tp.now0, d.tp.now1, d.tp.no0⟩ (L2.nil _ _ _) rfl (Nat.le_refl _) (by have := d.hr; simp; omega)
end Go.Proofs.Ythcbacflopbkdaa
