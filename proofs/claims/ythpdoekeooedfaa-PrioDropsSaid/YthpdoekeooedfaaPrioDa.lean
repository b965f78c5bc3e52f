/- One call at both queues: what it leaves, in plain terms. -/
import Derived.Test.YthpdoekeooedfaaPrioSa
import Derived.Test.YthpdoekeooedfaaPrioX
import Derived.Test.YthpdoekeooedfaaPrioW
import Derived.Test.YthpdoekeooedfaaPrioY
namespace Go.Proofs.Ythpdoekeooedfaa
open Go Go.RowKit Go.Shelf
theorem own_ne {w : World} {base size b : Nat} {e T : TypeId} {v : Value} {n : Nat} {xs ys : List Value} (h : w.ownsRow base e size v n xs) (hb : Blk w b ys T) (hT : T ≠ e) : some b ≠ v.ownBlock := by
  rcases h.2 with ⟨rfl, rfl⟩ | ⟨g, cap, cur, rfl, _, hg, _⟩
  · simp [Value.ownBlock]
  · intro e1
    simp only [Value.ownBlock, Option.some.injEq] at e1
    subst e1
    unfold Blk at hb
    rw [hg] at hb
    simp only [Option.some.injEq, Obj.cells.injEq] at hb
    exact hT hb.2.1.symm
theorem Blk.ty {w : World} {b : Nat} {xs ys : List Value} {T U : TypeId} (h : Blk w b xs T) (k : Blk w b ys U) : T = U := by
  unfold Blk at *
  rw [h] at k
  simp only [Option.some.injEq, Obj.cells.injEq] at k
  exact k.2.1
theorem Qs.free {w : World} {q b : Nat} {v : Value} {room turns : Int} {h : List It} {T : TypeId} {ys : List Value} (s : Qs w q v room turns h) (hb : Blk w b ys T) (h1 : T ≠ 53) (h2 : T ≠ 55) : b ∉ q :: v.ownBlock.toList := by
  intro hc
  simp only [List.mem_cons, Option.mem_toList] at hc
  rcases hc with rfl | hc
  · exact h1 (hb.ty s.hq)
  · exact own_ne s.own hb h2 hc.symm
theorem Blk.qs {w w2 : World} {q b : Nat} {v : Value} {room turns : Int} {h : List It} {T : TypeId} {ys : List Value} (hb : Blk w b ys T) (s : Qs w q v room turns h) (hk : Kept (q :: v.ownBlock.toList) w w2) (h1 : T ≠ 53) (h2 : T ≠ 55) : Blk w2 b ys T :=
  hk.blk hb (s.free hb h1 h2)
theorem LsT.qs {w w2 : World} {a : Option Addr} {l : List (Int × Int)} {q : Nat} {v : Value} {room turns : Int} {h : List It} (hl : LsT w a l) (s : Qs w q v room turns h) (hk : Kept (q :: v.ownBlock.toList) w w2) : LsT w2 a l :=
  hl.frame hk (fun b hb xs hc => s.free hc (by decide) (by decide) hb)
theorem Qs.fr {w w2 : World} {bs : List Nat} {q : Nat} {v : Value} {room turns : Int} {h : List It} (s : Qs w q v room turns h) (hk : Kept bs w w2) (h1 : q ∉ bs) (h2 : ∀ g, v.ownBlock = some g → g ∉ bs) : Qs w2 q v room turns h :=
  ⟨hk.blk s.hq h1, own_kept3 s.own (fun g _ hg hc => hk.block g (Array.getElem?_eq_some_iff.1 hc).1 (h2 g hg)), s.ne⟩
theorem Qs.lt {w : World} {q : Nat} {v : Value} {room turns : Int} {h : List It} (s : Qs w q v room turns h) : ∀ b, b ∈ q :: v.ownBlock.toList → b < w.heap.size := by
  intro b hb
  simp only [List.mem_cons, Option.mem_toList] at hb
  rcases hb with rfl | hb
  · exact s.hq.lt
  · exact (s.own.lt b hb).2
/-- The queue and the document's list: alike, and the queue's blocks are the law's own. -/
structure QX (bs : List Nat) (w0 w : World) (q : Nat) (v : Value) : Prop where
  kept : Kept bs w0 w
  hq : q ∈ bs ∨ w0.heap.size ≤ q
  hv : ∀ g, v.ownBlock = some g → g ∈ bs ∨ w0.heap.size ≤ g
theorem QX.own {bs : List Nat} {w0 w : World} {q : Nat} {v : Value} (x : QX bs w0 w q v) : ∀ b, b ∈ q :: v.ownBlock.toList → b ∈ bs ∨ w0.heap.size ≤ b := by
  intro b hb
  simp only [List.mem_cons, Option.mem_toList] at hb
  rcases hb with rfl | hb
  · exact x.hq
  · exact x.hv b hb
theorem QX.next {bs : List Nat} {w0 wi wj : World} {q : Nat} {v v' : Value} (x : QX bs w0 wi q v) (hk : Kept (q :: v.ownBlock.toList) wi wj) (hn : v'.ownBlock = v.ownBlock ∨ ∃ g, v'.ownBlock = some g ∧ wi.heap.size ≤ g) : QX bs w0 wj q v' := by
  refine ⟨x.kept.trans hk (fun _ h => h) x.own, x.hq, fun g hg => ?_⟩
  rcases hn with h1 | ⟨g', h1, h2⟩
  · exact x.hv g (h1 ▸ hg)
  · rw [h1] at hg
    have := x.kept.size
    simp only [Option.some.injEq] at hg
    right; omega
structure DoS (bs : List Nat) (w0 w : World) (q : Nat) (v : Value) (room T : Int) (h s : List It) (a : Option Addr) (n c : Nat) : Prop where
  qw : QX bs w0 w q v
  qs : Qs w q v room T h
  rp : Rp h T s
  ls : LsT w a (s.map pr)
  hn : s.length = n
  hc : n ≤ c
  hr : (n : Int) ≤ room
theorem DoS.kept {bs : List Nat} {w0 w w2 : World} {q : Nat} {v : Value} {room T : Int} {h s : List It} {a : Option Addr} {n c : Nat} (d : DoS bs w0 w q v room T h s a n c) (hk : Kept [] w w2) : DoS bs w0 w2 q v room T h s a n c :=
  ⟨⟨d.qw.kept.trans0 hk, d.qw.hq, d.qw.hv⟩, d.qs.kept hk, d.rp, d.ls.kept hk, d.hn, d.hc, d.hr⟩
def DoP (bs : List Nat) (w0 : World) (room T : Int) (e : Ending) (w' : World) : Prop :=
  ∃ q v T' h s a n c, e = .returned (.tuple #[.pointer (some ⟨q, 0, none⟩), .agg #[.int .i64 room, .slice a n c], .bool true]) ∧ DoS bs w0 w' q v room T' h s a n c ∧ T ≤ T' ∧ T' ≤ T + 1
/-- Push at the sorted list. -/
def pushS (s : List It) (x : It) (room : Int) : List It × Int × Bool :=
  if room < ((insS s x).length : Int) then ((insS s x).dropLast, ((insS s x).getLastD ⟨0, 0, 0⟩).v, true) else (insS s x, 0, false)
theorem push_same (s : List It) (x : It) (room : Int) : pushR (s.map pr) (pr x) room = ((pushS s x room).1.map pr, (pushS s x room).2.1, (pushS s x room).2.2) := by
  unfold pushR pushS
  rw [← ins_map]
  simp only [List.length_map]
  by_cases hr : room < ((insS s x).length : Int)
  · rw [if_neg (by omega), if_pos hr]
    refine Prod.ext (by simp [List.map_dropLast]) (Prod.ext ?_ rfl)
    simp only [List.getLastD_eq_getLast?, List.getLast?_map]
    cases (insS s x).getLast? <;> rfl
  · rw [if_pos (by omega), if_neg hr]
def PushQ (bs : List Nat) (w0 w : World) (q : Nat) (v : Value) (room T : Int) (r : List It × Int × Bool) (e : Ending) (w' : World) : Prop :=
  e = .returned (.tuple #[.int .i64 r.2.1, .bool r.2.2]) ∧ ∃ v' h', Qs w' q v' room T h' ∧ Rp h' T r.1 ∧ (r.1.length : Int) ≤ room ∧ QX bs w0 w' q v' ∧ Kept (q :: v.ownBlock.toList) w w' ∧ (v'.ownBlock = v.ownBlock ∨ ∃ g, v'.ownBlock = some g ∧ w.heap.size ≤ g)
theorem pushS_any {bs : List Nat} {w0 w : World} {q : Nat} {v : Value} {room T : Int} {h s : List It} {a : Option Addr} {n c : Nat} (d : DoS bs w0 w q v room T h s a n c) (rank x : Int) (h100 : n ≤ 100) (ht0 : 0 ≤ T) (ht1 : T ≤ 1000) :
    Calls Try.prog 9 #[.pointer (some ⟨q, 0, none⟩), .int .i64 rank, .int .i64 x] w (PushQ bs w0 w q v room (T + 1) (pushS s ⟨rank, T + 1, x⟩ room)) := by
  have hl := d.rp.len
  have hn := d.hn
  refine (push_any q v room T rank x h w d.qs (by omega) ht0 (by omega)).mono ?_
  rintro e w' ⟨v', hif, hk, ho⟩
  have hqw := d.qw.next hk ho
  have ra := d.rp.add rank x
  have hla := ra.len
  have hil := ins_len s ⟨rank, T + 1, x⟩
  have hr := d.hr
  unfold pushS
  by_cases hroom : room < ((insS s ⟨rank, T + 1, x⟩).length : Int)
  · rw [if_pos (by omega)] at hif
    rw [if_pos hroom]
    obtain ⟨hs, he, rd⟩ := ra.drop (by omega)
    obtain ⟨rfl, hq⟩ := hif
    rw [List.getLastD_eq_getLast?, List.getLast?_eq_some_getLast hs, he]
    exact ⟨rfl, v', _, hq, rd, by simp only [List.length_dropLast]; omega, hqw, hk, ho⟩
  · rw [if_neg (by omega)] at hif
    rw [if_neg hroom]
    obtain ⟨rfl, hq⟩ := hif
    exact ⟨rfl, v', _, hq, ra, by simp only; omega, hqw, hk, ho⟩
theorem keep_pr (d : Int) (s : List It) : (s.map pr).filter (keepR d) = (s.filter (keepI d)).map pr := by
  rw [List.filter_map]
  rfl
theorem ret_tct {P : Program} {w : World} {fn : Func} {p q r : Tmp} {ty : TypeId} (h : fn.results = #[.tmp q, .cell p ty, .tmp r]) (tmps : Array Value) (g : Nat) (T : TypeId) (xs : List Value) (u v : Value) (d : TypeDesc)
    (hp : tmps.getD p undef = .pointer (some ⟨g, 0, none⟩)) (hq : tmps.getD q undef = u) (hr : tmps.getD r undef = v) (hb : Blk w g xs T)
    (hu : P.underlying ty = some d) (hd : (match d with | .struct _ | .array _ _ => true | _ => false) = true) (hi : (P.info? ty).map (·.size) = some xs.length) :
    (results fn tmps).run P w = .ok (.tuple #[u, .agg xs.toArray, v]) w := by
  have hp' : tmps[p]?.getD undef = .pointer (some ⟨g, 0, none⟩) := by simpa using hp
  have hq' : tmps[q]?.getD undef = u := by simpa using hq
  have hr' : tmps[r]?.getD undef = v := by simpa using hr
  simp [results, h, hp', hq', hr', asAddr, run_loadVar_row w g T ty xs.toArray (0, 0) d hb hu hd (by simpa using hi)]
structure Bs (w W : World) (xs ys zs : List Value) : Prop where
  b0 : Blk W w.heap.size xs 41
  b1 : Blk W (w.heap.size + 1) ys 63
  b2 : Blk W (w.heap.size + 2) zs 41
theorem Bs.new (w : World) (xs ys zs : List Value) : Bs w (((w.alloc (.cells xs.toArray 41)).alloc (.cells ys.toArray 63)).alloc (.cells zs.toArray 41)) xs ys zs := by
  refine ⟨((Blk.new w xs _).alloc _).alloc _, ?_, ?_⟩
  · have h := (Blk.new (w.alloc (.cells xs.toArray 41)) ys 63).alloc (.cells zs.toArray 41)
    rw [World.size_alloc] at h
    exact h
  · have h := Blk.new ((w.alloc (.cells xs.toArray 41)).alloc (.cells ys.toArray 63)) zs 41
    rw [World.size_alloc, World.size_alloc] at h
    exact h
theorem Bs.kept {w W W2 : World} {xs ys zs : List Value} (b : Bs w W xs ys zs) (hk : Kept [] W W2) : Bs w W2 xs ys zs := ⟨hk.blk b.b0 (by simp), hk.blk b.b1 (by simp), hk.blk b.b2 (by simp)⟩
theorem Bs.qs {w W W2 : World} {xs ys zs : List Value} {q : Nat} {v : Value} {room turns : Int} {h : List It} (b : Bs w W xs ys zs) (s : Qs W q v room turns h) (hk : Kept (q :: v.ownBlock.toList) W W2) : Bs w W2 xs ys zs :=
  ⟨b.b0.qs s hk (by decide) (by decide), b.b1.qs s hk (by decide) (by decide), b.b2.qs s hk (by decide) (by decide)⟩
/-- The result's block written. -/
theorem DoS.put {bs : List Nat} {w0 w w2 : World} {q b : Nat} {v : Value} {room T : Int} {h s : List It} {a : Option Addr} {n c : Nat} {ys : List Value} (d : DoS bs w0 w q v room T h s a n c) (hb : Blk w b ys 41) (hb0 : w0.heap.size ≤ b) (hk : Kept [b] w w2) : DoS bs w0 w2 q v room T h s a n c := by
  have hf := d.qs.free hb (by decide) (by decide)
  simp only [List.mem_cons, Option.mem_toList, not_or] at hf
  refine ⟨⟨d.qw.kept.trans hk (fun _ h => h) (fun x hx => ?_), d.qw.hq, d.qw.hv⟩, d.qs.fr hk (by simpa using Ne.symm hf.1) (fun g hg hc => ?_), d.rp, d.ls.frame hk (fun b' hb' xs hc => ?_), d.hn, d.hc, d.hr⟩
  · simp only [List.mem_cons, List.not_mem_nil, or_false] at hx
    subst hx
    exact .inr hb0
  · simp only [List.mem_cons, List.not_mem_nil, or_false] at hc
    subst hc
    exact hf.2 hg
  · simp only [List.mem_cons, List.not_mem_nil, or_false] at hb'
    subst hb'
    exact absurd (hc.ty hb) (by decide)
theorem DoS.size {bs : List Nat} {w0 w : World} {q : Nat} {v : Value} {room T : Int} {h s : List It} {a : Option Addr} {n c : Nat} (d : DoS bs w0 w q v room T h s a n c) : w0.heap.size ≤ w.heap.size := d.qw.kept.size
theorem LsT.tail {w : World} {g off : Nat} {x : Int × Int} {l : List (Int × Int)} (h : LsT w (some ⟨g, off, none⟩) (x :: l)) : LsT w (some ⟨g, off + 2, none⟩) l := by
  refine ⟨fun i hi => ?_, fun hl => ?_⟩
  · obtain ⟨g', off', h1, h2, h3⟩ := h.1 (i + 1) (by simpa using hi)
    simp only [Option.some.injEq, Addr.mk.injEq, and_true] at h1
    obtain ⟨rfl, rfl⟩ := h1
    refine ⟨g, off + 2, rfl, ?_, ?_⟩
    · rw [show off + 2 + i * 2 = off + (i + 1) * 2 by omega]; exact h2
    · rw [show off + 2 + i * 2 = off + (i + 1) * 2 by omega]; exact h3
  · obtain ⟨g', off', xs, h1, h2⟩ := h.2 (by simp)
    simp only [Option.some.injEq, Addr.mk.injEq, and_true] at h1
    obtain ⟨rfl, rfl⟩ := h1
    exact ⟨g, off + 2, xs, rfl, h2⟩
def FilQ (bs : List Nat) (w0 w : World) (q : Nat) (v : Value) (room T K : Int) (s : List It) (e : Ending) (w' : World) : Prop :=
  e = .returned (.int .i64 K) ∧ ∃ v' h', Qs w' q v' room T h' ∧ Rp h' T s ∧ QX bs w0 w' q v' ∧ Kept (q :: v.ownBlock.toList) w w'
theorem filS_any {bs : List Nat} {w0 w : World} {q : Nat} {v : Value} {room T : Int} {h s : List It} {a : Option Addr} {n c : Nat} (d : DoS bs w0 w q v room T h s a n c) (B : Nat) (by_ : Int) (hB : w.cell? ⟨B, 0, none⟩ = some (.int .i64 by_)) (hby : 1 ≤ by_) (h100 : n ≤ 100) :
    Calls Try.prog 27 #[.pointer (some ⟨q, 0, none⟩), .func (.func 28) #[] #[.pointer (some ⟨B, 0, none⟩)]] w (FilQ bs w0 w q v room T ((s.length : Int) - ((s.filter (keepI by_)).length : Int)) (s.filter (keepI by_))) := by
  have hl := d.rp.len
  have hn := d.hn
  refine (filter_any q B v room T by_ h w d.qs hB hby (by omega)).mono ?_
  rintro e w' ⟨v', rfl, hq, hv, hk⟩
  have rf := d.rp.filter (keepI by_)
  have hl2 := rf.len
  rw [fix_len] at hl2
  refine ⟨by rw [← hl, hl2], v', _, hq, rf, ⟨d.qw.kept.trans hk (fun _ h => h) (fun x hx => ?_), d.qw.hq, fun g hg => .inr (Nat.le_trans d.size (hv g hg))⟩, hk.mono (fun x hx => .inl ?_)⟩
  · simp only [List.mem_cons, List.not_mem_nil, or_false] at hx
    subst hx
    exact d.qw.hq
  · simp only [List.mem_cons, List.not_mem_nil, or_false] at hx
    subst hx
    simp
theorem rfilS_any {w : World} {room by_ : Int} {s : List It} {a : Option Addr} {n c : Nat} (hl : LsT w a (s.map pr)) (hn : s.length = n) (h100 : n ≤ 100) (hby : 1 ≤ by_) :
    Calls Try.prog 29 #[.agg #[.int .i64 room, .slice a n c], .int .i64 by_] w fun e w' => ∃ a' n' c', e = .returned (.tuple #[.agg #[.int .i64 room, .slice a' n' c'], .int .i64 ((s.length : Int) - ((s.filter (keepI by_)).length : Int))]) ∧ (s.filter (keepI by_)).length = n' ∧ n' ≤ c' ∧ LsT w' a' ((s.filter (keepI by_)).map pr) ∧ Kept [] w w' := by
  refine (rfilter_any a n c (s.map pr) room by_ w hl.1 (by simpa using hn) h100 hby).mono ?_
  rintro e w' ⟨a', n', c', rfl, h1, h2, h3, h4⟩
  rw [keep_pr] at h1 h3 ⊢
  simp only [List.length_map] at h1 ⊢
  exact ⟨a', n', c', rfl, h1, h2, h3, h4⟩
/-- What is turned elsewhere. -/
theorem DoS.other {bs : List Nat} {w0 A C : World} {q : Nat} {v : Value} {room T : Int} {h s : List It} {a : Option Addr} {n c : Nat} {cs : List Nat} (d : DoS bs w0 A q v room T h s a n c) (hk : Kept cs A C) (h0 : ∀ b, b ∈ cs → b ∈ bs ∨ w0.heap.size ≤ b) (hs : ∀ b, b ∈ cs → b ∉ q :: v.ownBlock.toList) (hT : ∀ b, b ∈ cs → ∀ xs, ¬ Blk A b xs 49) : DoS bs w0 C q v room T h s a n c :=
  ⟨⟨d.qw.kept.trans hk (fun _ h => h) h0, d.qw.hq, d.qw.hv⟩, d.qs.fr hk (fun hc => hs q hc (by simp)) (fun g hg hc => hs g hc (by simp [hg])), d.rp, d.ls.frame hk hT, d.hn, d.hc, d.hr⟩
def CloQ (bs : List Nat) (w0 w : World) (room T : Int) (h s : List It) (a : Option Addr) (n c : Nat) (e : Ending) (w' : World) : Prop :=
  ∃ q2 v2, e = .returned (.pointer (some ⟨q2, 0, none⟩)) ∧ DoS bs w0 w' q2 v2 room T h s a n c ∧ (∀ b, b ∈ q2 :: v2.ownBlock.toList → w.heap.size ≤ b) ∧ Kept [] w w'
theorem cloS_any {bs : List Nat} {w0 w : World} {q : Nat} {v : Value} {room T : Int} {h s : List It} {a : Option Addr} {n c : Nat} (d : DoS bs w0 w q v room T h s a n c) (h100 : n ≤ 100) :
    Calls Try.prog 23 #[.pointer (some ⟨q, 0, none⟩)] w (CloQ bs w0 w room T h s a n c) := by
  have hl := d.rp.len
  have hn := d.hn
  refine (clone_any q v room T h w d.qs (by omega)).mono ?_
  rintro e w' ⟨q2, v2, rfl, hq, h1, h2, hk⟩
  have hsz := d.size
  refine ⟨q2, v2, rfl, ⟨⟨d.qw.kept.trans0 hk, .inr (by omega), fun g hg => .inr (Nat.le_trans hsz (h2 g hg))⟩, hq, d.rp, d.ls.kept hk, d.hn, d.hc, d.hr⟩, fun b hb => ?_, hk⟩
  simp only [List.mem_cons, Option.mem_toList] at hb
  rcases hb with rfl | hb
  · exact h1
  · exact h2 b hb
theorem push_len (s : List It) (x : It) (room : Int) : (pushS s x room).1.length ≤ s.length + 1 := by
  unfold pushS
  have h := ins_len s x
  split
  · simp only [List.length_dropLast]; omega
  · simp only; omega
end Go.Proofs.Ythpdoekeooedfaa
