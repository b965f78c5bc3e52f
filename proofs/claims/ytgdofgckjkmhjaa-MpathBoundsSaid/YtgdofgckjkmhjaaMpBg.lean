/- The budget and the numbers of what goes, in plain terms. A datagram that comes in. A script that comes in (MpathBounds). MpathBounds: sizes that may not be. Printed by k/gen_mpbd.py. MpathBounds: where the law stands. MpathBounds: the law's walk. Printed by k/gen_mpbg.py. -/
import Derived.Test.YtgdofgckjkmhjaaMpAw
import Derived.Test.YtgdofgckjkmhjaaWcA
import Derived.Test.YtgdofgckjkmhjaaOpen
import Derived.WideShapes
import Derived.ChangeSlices
import Derived.OpenShut
import Derived.ProofKit
import Derived.Deep.Slices
import Derived.Test.YtgdofgckjkmhjaaRowsOf
import Derived.Test.YtgdofgckjkmhjaaMpFr
import Derived.Deep.DeepCutAuto
import Derived.Deep.CutBlock
namespace Go.Proofs.Ytgdofgckjkmhjaa.Mp
open Go Go.RowKit
/-- A way's next number. -/
def nxt (n : Nat × Nat) (i : Nat) : Nat := if i = 0 then n.1 else n.2
def bump (n : Nat × Nat) (i : Nat) : Nat × Nat := if i = 0 then (nextU n.1, n.2) else (n.1, nextU n.2)
def nms (m : Ms) : Nat × Nat := (m.p0.next, m.p1.next)
/-- What goes: by a way that there is, its number the next one, well formed; of one that waits, or empty. -/
def Run (s : List Qd.It) : Nat × Nat → List (Nat × Qd.Dv) → Nat × Nat → Prop
  | n, [], n' => n = n'
  | n, y :: l, n' => (y.1 < 2 ∧ y.2.d.path = (y.1 : Int) ∧ y.2.d.seq = nxt n y.1 ∧ chk y.2.d = 0 ∧ ((∃ it, it ∈ s ∧ y.2.p = it.v.p ∧ y.2.c = it.v.c ∧ y.2.d.data = it.v.d.data) ∨ (y.2.p = none ∧ y.2.c = 0 ∧ y.2.d.data = []))) ∧ Run s (bump n y.1) l n'
def bytesOf : List (Nat × Qd.Dv) → Int
  | [] => 0
  | y :: l => sizeI y.2 + bytesOf l
theorem Run.app {s : List Qd.It} : ∀ {l r : List (Nat × Qd.Dv)} {a b c : Nat × Nat}, Run s a l b → Run s b r c → Run s a (l ++ r) c
  | [], r, a, b, c, h, g => by
    have h2 : a = b := h
    rw [h2]
    exact g
  | y :: l, r, a, b, c, h, g => ⟨h.1, Run.app h.2 g⟩
theorem Run.mono {s t : List Qd.It} (hs : ∀ x, x ∈ s → x ∈ t) : ∀ {l : List (Nat × Qd.Dv)} {a b : Nat × Nat}, Run s a l b → Run t a l b
  | [], a, b, h => h
  | y :: l, a, b, h => ⟨⟨h.1.1, h.1.2.1, h.1.2.2.1, h.1.2.2.2.1, h.1.2.2.2.2.imp (fun ⟨it, h1, h2⟩ => ⟨it, hs it h1, h2⟩) id⟩, Run.mono hs h.2⟩
theorem bytes_app : ∀ l r : List (Nat × Qd.Dv), bytesOf (l ++ r) = bytesOf l + bytesOf r
  | [], r => by simp [bytesOf]
  | y :: l, r => by
    show sizeI y.2 + bytesOf (l ++ r) = sizeI y.2 + bytesOf l + bytesOf r
    rw [bytes_app l r]
    omega
theorem nms_st (m : Ms) (i : Nat) : nms (stM m i) = bump (nms m) i := by
  unfold nms stM Ms.setW bump Ms.way
  by_cases h : i = 0
  · simp [h]
  · simp [h]
theorem nxt_way (m : Ms) (i : Nat) : (m.way i).next = nxt (nms m) i := by
  unfold Ms.way nxt nms
  split <;> rfl
theorem chk_st {m : Ms} {i : Nat} {x : Qd.Dv} (hi : i < 2) (h : chk x.d = 0) : chk (stD m i x).d = 0 := by
  obtain ⟨h1, _, h3⟩ := chk_form h
  unfold chk
  have hf : formB (stD m i x).d = true := decide_eq_true (show formP (stD m i x).d from h3)
  rw [if_neg (by show ¬ (x.d.kind < 1 ∨ 8 < x.d.kind); omega), if_neg (by
    rw [hf]
    show ¬ ((i : Int) < 0 ∨ 2 ≤ (i : Int) ∨ true = false)
    simp
    omega)]
theorem stA_run {s : List Qd.It} {it : Qd.It} (hit : it ∈ s) (hc : chk it.v.d = 0) (m : Ms) (l : List Nat) : ∀ n, n ≤ l.length → (∀ j, j < l.length → l.getD j 0 < 2) → Run s (nms m) (stA m it.v l n).2 (nms (stA m it.v l n).1) ∧ bytesOf (stA m it.v l n).2 = sizeI it.v * (n : Int) ∧ (stA m it.v l n).1.held = m.held
  | 0, _, _ => ⟨rfl, by simp [stA, bytesOf], rfl⟩
  | n + 1, hn, hl => by
    obtain ⟨h1, h2, h3⟩ := stA_run hit hc m l n (by omega) hl
    have hi := hl n (by omega)
    have hs : sizeI (stD (stA m it.v l n).1 (l.getD n 0) it.v) = sizeI it.v := rfl
    refine ⟨?_, ?_, ?_⟩
    · show Run s (nms m) ((stA m it.v l n).2 ++ [(l.getD n 0, stD (stA m it.v l n).1 (l.getD n 0) it.v)]) (nms (stM (stA m it.v l n).1 (l.getD n 0)))
      refine Run.app h1 ⟨⟨hi, rfl, nxt_way _ _, chk_st hi hc, .inl ⟨it, hit, rfl, rfl, rfl⟩⟩, ?_⟩
      exact (nms_st _ _).symm
    · show bytesOf ((stA m it.v l n).2 ++ [(l.getD n 0, stD (stA m it.v l n).1 (l.getD n 0) it.v)]) = _
      rw [bytes_app, h2]
      show sizeI it.v * (n : Int) + (sizeI (stD (stA m it.v l n).1 (l.getD n 0) it.v) + 0) = _
      rw [hs]
      push_cast
      rw [Int.mul_add]
      omega
    · show (stM (stA m it.v l n).1 (l.getD n 0)).held = m.held
      rw [show (stM (stA m it.v l n).1 (l.getD n 0)).held = (stA m it.v l n).1.held from (setW_same _ _ _).2.2.1, h3]
theorem ways_lt (m : Ms) (it : Qd.It) : ∀ j, j < (waysF m it).length → (waysF m it).getD j 0 < 2 := by
  have h := choM_len m it.rank
  exact fun j hj => ((fitW_len (sizeI it.v) m.held (choM m it.rank) h.1 h.2).2 j hj).2
theorem flush_run : ∀ (s : List Qd.It) (m : Ms), m.s = s → (∀ x, x ∈ s → chk x.v.d = 0) → Run s (nms m) (flushL s m).2 (nms (flushL s m).1) ∧ bytesOf (flushL s m).2 + (flushL s m).1.held = m.held
  | [], m, _, _ => ⟨rfl, by simp [flushL, bytesOf]⟩
  | it :: r, m, hs, hc => by
    by_cases hgo : sizeI it.v * ((waysF m it).length : Int) ≤ m.held
    · have hfl : flushL (it :: r) m = ((flushL r (goF m it r).1).1, (goF m it r).2 ++ (flushL r (goF m it r).1).2) := by rw [flushL, if_pos hgo]
      have hgs : (goF m it r).1.s = r := by unfold goF; rw [stA_s]
      obtain ⟨h1, h2⟩ := flush_run r (goF m it r).1 hgs (fun x hx => hc x (.tail _ hx))
      obtain ⟨g1, g2, g3⟩ := stA_run (s := it :: r) (it := it) List.mem_cons_self (hc it List.mem_cons_self) { takeM m (sizeI it.v * ((waysF m it).length : Int)) with s := r } (waysF m it) (waysF m it).length (Nat.le_refl _) (ways_lt m it)
      rw [hfl]
      refine ⟨Run.app g1 (Run.mono (fun x hx => .tail _ hx) h1), ?_⟩
      have g4 : bytesOf (goF m it r).2 = sizeI it.v * ((waysF m it).length : Int) := g2
      have g5 : (goF m it r).1.held = m.held - sizeI it.v * ((waysF m it).length : Int) := g3
      rw [bytes_app]
      simp only
      omega
    · have hfl : flushL (it :: r) m = ({ m with hold := m.hold + 1 }, []) := by rw [flushL, if_neg hgo]
      rw [hfl]
      exact ⟨rfl, by simp [bytesOf]⟩
/-- What does not change. -/
def fix3 (m : Ms) : Nat × Int × Int := (m.rt, m.burst, m.room)
theorem fix_set (m : Ms) (i : Nat) (p : Pa) : fix3 (m.setW i p) = fix3 m := by
  have h := setW_same m i p
  unfold fix3
  rw [h.1, h.2.1, h.2.2.2.2.2.1]
theorem fix_stA (m : Ms) (x : Qd.Dv) (l : List Nat) : ∀ n, fix3 (stA m x l n).1 = fix3 m
  | 0 => rfl
  | n + 1 => by
    show fix3 (stM (stA m x l n).1 _) = fix3 m
    rw [show fix3 (stM (stA m x l n).1 (l.getD n 0)) = fix3 (stA m x l n).1 from fix_set _ _ _, fix_stA m x l n]
theorem fix_flush : ∀ (s : List Qd.It) (m : Ms), fix3 (flushL s m).1 = fix3 m
  | [], m => rfl
  | it :: r, m => by
    rw [flushL]
    split
    · rw [show fix3 ((flushL r (goF m it r).1).1, (goF m it r).2 ++ (flushL r (goF m it r).1).2).1 = fix3 (flushL r (goF m it r).1).1 from rfl, fix_flush r (goF m it r).1]
      unfold goF
      rw [fix_stA]
      rfl
    · rfl
theorem fix_tick1 (m : Ms) (i : Nat) : fix3 (tick1 m i).1 = fix3 m := by
  unfold tick1
  split
  · show fix3 (stM (takeM (m.setW i (tickP (m.way i)).1) 33) i) = fix3 m
    rw [show fix3 (stM (takeM (m.setW i (tickP (m.way i)).1) 33) i) = fix3 (takeM (m.setW i (tickP (m.way i)).1) 33) from fix_set _ _ _]
    exact fix_set _ _ _
  · exact fix_set _ _ _
theorem fix_tick (m : Ms) : fix3 (tickM m).1 = fix3 m := by
  show fix3 (tick1 (tick1 (tick0 m) 0).1 1).1 = fix3 m
  rw [fix_tick1, fix_tick1]
  rfl
/-- The budget: a flush, a tick. -/
theorem budget_flush {m : Ms} {bytes B : Int} (hc : ∀ x, x ∈ m.s → chk x.v.d = 0) (h : m.held + bytes ≤ B) : (flushM m).1.held + (bytes + bytesOf (flushM m).2) ≤ B := by
  have h2 := (flush_run m.s m rfl hc).2
  have e : flushM m = flushL m.s m := rfl
  rw [e]
  omega
theorem tickP_next (p : Pa) : (tickP p).1.next = p.next := by
  unfold tickP
  (repeat' split) <;> rfl
theorem heardP_next (p : Pa) (n : Nat) : (heardP p n).1.next = p.next := by
  unfold heardP
  split <;> rfl
theorem nms_set {m : Ms} {i : Nat} {p : Pa} (h : p.next = (m.way i).next) : nms (m.setW i p) = nms m := by
  unfold nms Ms.setW Ms.way at *
  split
  · rename_i h0
    rw [if_pos h0] at h
    simp [h]
  · rename_i h0
    rw [if_neg h0] at h
    simp [h]
theorem chk_keep {M m : Ms} {i : Nat} (hi : i < 2) : chk (stD M i (keepD m)).d = 0 := by
  refine chk_st hi ?_
  unfold chk
  have hf : formB (keepD m).d = true := by
    unfold formB
    apply decide_eq_true
    simp [formP, keepD, Qd.dg0]
  rw [if_neg (by simp [keepD]), if_neg (by rw [hf]; simp [keepD, Qd.dg0])]
theorem tick1_run (s : List Qd.It) (m : Ms) {i : Nat} (hi : i < 2) : Run s (nms m) (tick1 m i).2 (nms (tick1 m i).1) ∧ bytesOf (tick1 m i).2 + (tick1 m i).1.held = m.held := by
  have hn := nms_set (m := m) (i := i) (p := (tickP (m.way i)).1) (tickP_next _)
  have hh : (m.setW i (tickP (m.way i)).1).held = m.held := (setW_same _ _ _).2.2.1
  unfold tick1
  split
  · refine ⟨⟨⟨hi, rfl, ?_, chk_keep hi, .inr ⟨rfl, rfl, rfl⟩⟩, ?_⟩, ?_⟩
    · rw [← hn]
      exact nxt_way _ _
    · show bump (nms m) i = _
      rw [nms_st, ← hn]
      rfl
    · show sizeI (keepD m) + 0 + (stM (takeM (m.setW i (tickP (m.way i)).1) 33) i).held = m.held
      rw [show (stM (takeM (m.setW i (tickP (m.way i)).1) 33) i).held = (m.setW i (tickP (m.way i)).1).held - 33 from (setW_same _ _ _).2.2.1, hh]
      show (33 : Int) + ((0 : Nat) : Int) + 0 + (m.held - 33) = m.held
      push_cast
      omega
  · exact ⟨hn.symm, by show 0 + (m.setW i (tickP (m.way i)).1).held = m.held; rw [hh]; omega⟩
theorem tick_run (s : List Qd.It) (m : Ms) : Run s (nms m) (tickM m).2 (nms (tickM m).1) ∧ bytesOf (tickM m).2 + (tickM m).1.held = heldT m.rt m.burst m.held := by
  obtain ⟨a1, a2⟩ := tick1_run s (tick0 m) (i := 0) (by omega)
  obtain ⟨b1, b2⟩ := tick1_run s (tick1 (tick0 m) 0).1 (i := 1) (by omega)
  have e1 : (tickM m).2 = (tick1 (tick0 m) 0).2 ++ (tick1 (tick1 (tick0 m) 0).1 1).2 := rfl
  have e2 : (tickM m).1 = (tick1 (tick1 (tick0 m) 0).1 1).1 := rfl
  rw [e1, e2, bytes_app]
  have h0 : (tick0 m).held = heldT m.rt m.burst m.held := rfl
  exact ⟨Run.app a1 b1, by omega⟩
theorem budget_tick {m : Ms} {bytes B : Int} (h : m.held + bytes ≤ B) : (tickM m).1.held + (bytes + bytesOf (tickM m).2) ≤ B + (m.rt : Int) := by
  have h2 := (tick_run [] m).2
  have h3 : heldT m.rt m.burst m.held ≤ m.held + (m.rt : Int) := by unfold heldT; omega
  omega
end Go.Proofs.Ytgdofgckjkmhjaa.Mp
namespace Go.Proofs.Ytgdofgckjkmhjaa
open Go Go.RowKit Go.ChangeShapes Go.WideShapes
set_option maxRecDepth 100000
theorem bts_none (w : World) : Bts w none 0 0 [] := ⟨rfl, Nat.le_refl _, Nat.zero_le _, fun _ => rfl, fun i hi => absurd hi (by simp)⟩
theorem byte_of {H : Type} {enc : TypeId × Value → H} {w : World} {base : Nat} {held : Bool} {fuel : Nat} {v : Value} {x : DataW H × List MemPlace} (h : DataW.trod enc Try.prog w base (fun _ => true) held fuel 32 [v] = some x) : ∃ a n c l, v = .slice a n c ∧ Bts w a n c l := by
  rcases open_ints Try.underlying32 Try.underlying5 (by kernel_rfl) h with ⟨h1, _⟩ | ⟨a, len, cap, zs, h1, _, hl, hm, hz, _, hc, hw⟩
  · exact ⟨none, 0, 0, [], by simpa using h1, bts_none _⟩
  · obtain ⟨l, hb⟩ := bts_of (w := w) (a := some a) (len := len) (cap := cap) (zs := zs) (.inr ⟨a, rfl, hl, hm, by simpa using hz, hc, hw⟩)
    exact ⟨some a, len, cap, l, by simpa using h1, hb⟩
open Go.ChangeShapes Go.WideShapes in
theorem dg_of {H : Type} {enc : TypeId × Value → H} {w : World} {base : Nat} {held : Bool} {cs : List Value} (h : Rd enc Try.prog w base (fun _ => true) held 34 cs) : ∃ d p c, cs = dgl d p c ∧ Bts w p d.data.length c d.data ∧ DgFits d := by
  have hl := h.len Try.underlying34
  rw [show Try.prog.cellsOf 34 = 11 by kernel_rfl] at hl
  have ci : Try.prog.cellsOf 3 = 1 := by kernel_rfl
  have cu : Try.prog.cellsOf 30 = 1 := by kernel_rfl
  have cb : Try.prog.cellsOf 32 = 1 := by kernel_rfl
  obtain ⟨n0, e0, f0⟩ := (h.field Try.underlying34 0 _ rfl).int Try.underlying3
  obtain ⟨n1, e1, f1⟩ := (h.field Try.underlying34 1 _ rfl).int Try.underlying30
  obtain ⟨n2, e2, f2⟩ := (h.field Try.underlying34 2 _ rfl).int Try.underlying30
  obtain ⟨n3, e3, f3⟩ := (h.field Try.underlying34 3 _ rfl).int Try.underlying3
  obtain ⟨n4, e4, f4⟩ := (h.field Try.underlying34 4 _ rfl).int Try.underlying30
  obtain ⟨n5, e5, f5⟩ := (h.field Try.underlying34 5 _ rfl).int Try.underlying30
  obtain ⟨n6, e6, f6⟩ := (h.field Try.underlying34 6 _ rfl).int Try.underlying30
  obtain ⟨n7, e7, f7⟩ := (h.field Try.underlying34 7 _ rfl).int Try.underlying3
  obtain ⟨n8, e8, f8⟩ := (h.field Try.underlying34 8 _ rfl).int Try.underlying3
  obtain ⟨n9, e9, f9⟩ := (h.field Try.underlying34 9 _ rfl).int Try.underlying3
  obtain ⟨fuel, x, e10⟩ := h.field Try.underlying34 10 _ rfl
  try simp only [ci] at e0
  try simp only [cu] at e0
  try simp only [cb] at e0
  try simp only [ci] at e1
  try simp only [cu] at e1
  try simp only [cb] at e1
  try simp only [ci] at e2
  try simp only [cu] at e2
  try simp only [cb] at e2
  try simp only [ci] at e3
  try simp only [cu] at e3
  try simp only [cb] at e3
  try simp only [ci] at e4
  try simp only [cu] at e4
  try simp only [cb] at e4
  try simp only [ci] at e5
  try simp only [cu] at e5
  try simp only [cb] at e5
  try simp only [ci] at e6
  try simp only [cu] at e6
  try simp only [cb] at e6
  try simp only [ci] at e7
  try simp only [cu] at e7
  try simp only [cb] at e7
  try simp only [ci] at e8
  try simp only [cu] at e8
  try simp only [cb] at e8
  try simp only [ci] at e9
  try simp only [cu] at e9
  try simp only [cb] at e9
  try simp only [ci] at e10
  try simp only [cu] at e10
  try simp only [cb] at e10
  try rw [ci] at e0
  match cs, hl with
  | [v0, v1, v2, v3, v4, v5, v6, v7, v8, v9, v10], _ =>
    have g0 := at_of e0; have g1 := at_of e1; have g2 := at_of e2; have g3 := at_of e3; have g4 := at_of e4; have g5 := at_of e5
    have g6 := at_of e6; have g7 := at_of e7; have g8 := at_of e8; have g9 := at_of e9
    simp at g0 g1 g2 g3 g4 g5 g6 g7 g8 g9
    subst g0 g1 g2 g3 g4 g5 g6 g7 g8 g9
    obtain ⟨a, n, c, l, rfl, hb⟩ := byte_of (v := v10) (by simpa [cb] using e10)
    obtain ⟨m1, rfl, k1⟩ := nat_u32 f1
    obtain ⟨m2, rfl, k2⟩ := nat_u32 f2
    obtain ⟨m4, rfl, k4⟩ := nat_u32 f4
    obtain ⟨m5, rfl, k5⟩ := nat_u32 f5
    obtain ⟨m6, rfl, k6⟩ := nat_u32 f6
    obtain rfl := hb.hlen
    refine ⟨{ kind := n0, sess := m1, seq := m2, path := n3, tick := m4, a := m5, b := m6, k := n7, m := n8, index := n9, data := l }, a, c, rfl, hb, ?_⟩
    exact ⟨int_i64 f0, int_i64 f3, k1, k2, k4, k5, k6⟩
end Go.Proofs.Ytgdofgckjkmhjaa
namespace Go.Proofs.Ytgdofgckjkmhjaa.Mp
open Go Go.ChangeShapes Go.WideShapes Go.ChangeAt Go.RowKit Go.Deep
/-- A call of the law's script. -/
structure Oq where
  kind : Int
  rank : Int
  d : Dg
  p : Option Addr
  c : Nat
  n : Int
  way : Int
  thn : Nat
instance : Inhabited Oq := ⟨⟨0, 0, Qd.dg0, none, 0, 0, 0, 0⟩⟩
def oqc (y : Oq) : List Value := .int .i64 y.kind :: .int .i64 y.rank :: (dgl y.d y.p y.c ++ [.int .i64 y.n, .int .i64 y.way, .int .u32 y.thn])
/-- A script, as it lies. -/
structure OqR (w : World) (a : Option Addr) (l : List Oq) : Prop where
  at_ : ∀ (i : Nat) y, l[i]? = some y → ∃ g o, a = some ⟨g, o, none⟩ ∧ g < w.heap.size ∧ w.rangeAt g (o + i * 16) (oqc y)
  ok : ∀ y, y ∈ l → Bts w y.p y.d.data.length y.c y.d.data ∧ DgFits y.d ∧ y.thn < 4294967296
theorem OqR.kept {w w' : World} {a : Option Addr} {l : List Oq} (h : OqR w a l) (hk : Kept [] w w') : OqR w' a l :=
  ⟨fun i y hy => by
    obtain ⟨g, o, h1, h2, h3⟩ := h.at_ i y hy
    exact ⟨g, o, h1, Nat.lt_of_lt_of_le h2 hk.size, hk.range h3 (by simp)⟩, fun y hy => ⟨(h.ok y hy).1.kept hk, (h.ok y hy).2⟩⟩
theorem oqs_of {H : Type} {enc : TypeId × Value → H} {w : World} {base : Nat} {held : Bool} {fuel : Nat} {v : Value} {x : DataW H × List MemPlace} (h : DataW.trod enc Try.prog w base (fun _ => true) held fuel 40 [v] = some x) :
    ∃ a c xs, v = .slice a xs.length c ∧ OqR w a xs := by
  have c16 : Try.prog.cellsOf 43 = 16 := by kernel_rfl
  have ci : Try.prog.cellsOf 3 = 1 := by kernel_rfl
  have cu : Try.prog.cellsOf 30 = 1 := by kernel_rfl
  have cd : Try.prog.cellsOf 34 = 11 := by kernel_rfl
  obtain ⟨a, c, xs, h1, h2, h3⟩ := rows_of (α := Oq) 16 (by omega) c16 Try.underlying40 oqc (fun y => Bts w y.p y.d.data.length y.c y.d.data ∧ DgFits y.d ∧ y.thn < 4294967296) (fun _ => rfl) (fun es he => by
    have hlen := he.len Try.underlying43
    rw [c16] at hlen
    obtain ⟨n0, e0, _⟩ := (he.field Try.underlying43 0 _ rfl).int Try.underlying3
    obtain ⟨n1, e1, _⟩ := (he.field Try.underlying43 1 _ rfl).int Try.underlying3
    obtain ⟨d, p, c, e2, hb, hf⟩ := dg_of (he.field Try.underlying43 2 _ rfl)
    obtain ⟨n3, e3, _⟩ := (he.field Try.underlying43 3 _ rfl).int Try.underlying3
    obtain ⟨n4, e4, _⟩ := (he.field Try.underlying43 4 _ rfl).int Try.underlying3
    obtain ⟨n5, e5, w5⟩ := (he.field Try.underlying43 5 _ rfl).int Try.underlying30
    obtain ⟨t, rfl, ht⟩ := nat_u32 w5
    change (es.drop 0).take (Try.prog.cellsOf 3) = _ at e0
    change (es.drop 1).take (Try.prog.cellsOf 3) = _ at e1
    change (es.drop 2).take (Try.prog.cellsOf 34) = _ at e2
    change (es.drop 13).take (Try.prog.cellsOf 3) = _ at e3
    change (es.drop 14).take (Try.prog.cellsOf 3) = _ at e4
    change (es.drop 15).take (Try.prog.cellsOf 30) = _ at e5
    rw [ci] at e0 e1 e3 e4
    rw [cu] at e5
    rw [cd] at e2
    have g0 := at_of e0
    have g1 := at_of e1
    have g3 := at_of e3
    have g4 := at_of e4
    have g5 := at_of e5
    refine ⟨⟨n0, n1, d, p, c, n3, n4, t⟩, ⟨hb, hf, ht⟩, ?_⟩
    match es, hlen with
    | [x0, x1, y0, y1, y2, y3, y4, y5, y6, y7, y8, y9, y10, x3, x4, x5], _ =>
      have e2' : [y0, y1, y2, y3, y4, y5, y6, y7, y8, y9, y10] = dgl d p c := e2
      have f0 : x0 = .int .i64 n0 := by simpa using g0
      have f1 : x1 = .int .i64 n1 := by simpa using g1
      have f3 : x3 = .int .i64 n3 := by simpa using g3
      have f4 : x4 = .int .i64 n4 := by simpa using g4
      have f5 : x5 = .int .u32 (t : Int) := by simpa using g5
      subst f0 f1 f3 f4 f5
      show _ :: _ :: ([y0, y1, y2, y3, y4, y5, y6, y7, y8, y9, y10] ++ [_, _, _]) = _
      rw [e2']
      rfl) h
  refine ⟨a, c, xs, h1, ⟨fun i y hy => ?_, h3⟩⟩
  obtain ⟨g, o, ha, hg, hc⟩ := h2 i y hy
  exact ⟨g, o, ha, hg, fun j u hu => hc j u hu⟩
theorem outC_one (l : List (Nat × Qd.Dv)) : ∀ u ∈ outC l, u.oneCell' = true := by
  intro u hu
  simp only [outC, List.mem_flatMap] at hu
  obtain ⟨y, _, h⟩ := hu
  exact snt_one _ _ u h
theorem outC_len (l : List (Nat × Qd.Dv)) : (outC l).length = l.length * 12 := by
  induction l with
  | nil => rfl
  | cons y l ih =>
    have e : outC (y :: l) = snt (y.1 : Int) y.2 ++ outC l := by simp [outC]
    have hl : (snt (y.1 : Int) y.2).length = 12 := rfl
    rw [e, List.length_append, hl, ih, List.length_cons]
    omega
/-- A whole row has gone. -/
theorem out_appN {w : World} {ops : Array Oper} {rest : List Oper} {o : Oper} {a : Act} {Q : Exit → Act → World → Prop} (hgd : o.guard = none) (s x : Operand)
    (ho : o.op = .call { callee := .builtin .append, args := #[s, x], argTypes := #[35, 35] })
    (base : Nat) (v : Value) (l : List (Nat × Qd.Dv)) (hs : a.eval s = v) (hown : w.ownsRow base 38 12 v l.length (outC l))
    (base2 : Nat) (a2 : Option Addr) (c2 : Nat) (r : List (Nat × Qd.Dv)) (hx : a.eval x = .slice a2 r.length c2) (hr : w.ownsRow base2 38 12 (.slice a2 r.length c2) r.length (outC r)) (hroom : l.length + r.length ≤ 1000000) (hbase : base ≤ w.heap.size)
    (h : ∀ v' w', w'.ownsRow base 38 12 v' (l ++ r).length (outC (l ++ r)) → w.grownBy w' v.ownBlock → wpList Try.prog ops Q rest (a.put o.dst v') w') : wpList Try.prog ops Q (o :: rest) a w := by
  have hf : (a2 = none → c2 = 0) ∧ r.length ≤ c2 ∧ ∀ ad, a2 = some ad → ∀ j u, (outC r)[j]? = some u → w.cell? (ad.add j) = some u := by
    rcases hr.2 with ⟨h1, h2⟩ | ⟨g, cap, cur, he, _, hg, hn, hc, hz, ht⟩
    · simp only [Value.slice.injEq] at h1
      refine ⟨fun _ => h1.2.2, by omega, fun ad he => by rw [h1.1] at he; cases he⟩
    · simp only [Value.slice.injEq] at he
      refine ⟨fun hn2 => (by rw [he.1] at hn2; cases hn2), by omega, fun ad hd j u hu => ?_⟩
      rw [he.1] at hd
      simp only [Option.some.injEq] at hd
      subst hd
      rw [Addr.add_mid, Nat.zero_add]
      have hB : Blk w g cur.toList 38 := hg
      refine hB.cell ?_
      have hj := (List.getElem?_eq_some_iff.1 hu).1
      rw [outC_len] at hj
      rw [← ht, List.getElem?_take_of_lt (by omega)] at hu
      exact hu
  refine wpList_app hgd s x 35 ho base 38 (.agg (snt 0 Qd.dv0).toArray) 12 96 infoSn3 Try.underlying35 rfl (by omega) v l.length (outC l) hs hown a2 r.length c2 (outC r) hx (outC_len r) hf.1 hf.2.1 hf.2.2 (outC_one r) (by unfold maxLen; omega) (by omega) hbase ?_
  intro v' w' h1 h2
  refine h v' w' ?_ h2
  rw [List.length_append, outC_app]
  exact h1
end Go.Proofs.Ytgdofgckjkmhjaa.Mp
namespace Go.Proofs.Ytgdofgckjkmhjaa.Mp
open Go Go.RowKit
set_option maxRecDepth 100000 in
set_option maxHeartbeats 6400000 in
theorem bounds_bad (rate burst room0 : Int) (a : Option Addr) (c n : Nat) (w : World) (h : rate < 1 ∨ 100000 < rate ∨ burst < 1 ∨ 100000 < burst ∨ room0 < 1 ∨ 256 < room0) :
    Calls Try.prog 4 #[.agg #[.int .i64 rate, .int .i64 burst, .int .i64 room0], .slice a n c] w fun e w' => e = .returned (.bool true) ∧ Kept [] w w' := by
  have HA := hx (fun W => awake_m W)
  have HB := hx (Blk.new w [.int .i64 rate, .int .i64 burst, .int .i64 room0] 23)
  by_cases h1 : rate < 1
  · have dh1 : decide (rate < 1) = true := decide_eq_true h1
    clear h
    go_enter Try.func4, Try.ntmps4
    go_upto_region 3 with (go_at_call 5; refine (HA.out _).mono ?_; rintro e w1 ⟨rfl, hk1⟩; have K1 := hx (((Kept.refl [] w).alloc _).trans0 hk1); have B1 := hx (hk1.blk HB.out (by simp)); clear hk1)
    have c0 := B1.out.cell (i := 0) rfl
    have c1 := B1.out.cell (i := 1) rfl
    have c2 := B1.out.cell (i := 2) rfl
    go_wp2_with fail
    go_ret
    exact ⟨rfl, K1.out⟩
  · have dh1 : decide (rate < 1) = false := decide_eq_false h1
    by_cases h2 : 100000 < rate
    · have dh2 : decide (100000 < rate) = true := decide_eq_true h2
      clear h
      go_enter Try.func4, Try.ntmps4
      go_upto_region 3 with (go_at_call 5; refine (HA.out _).mono ?_; rintro e w1 ⟨rfl, hk1⟩; have K1 := hx (((Kept.refl [] w).alloc _).trans0 hk1); have B1 := hx (hk1.blk HB.out (by simp)); clear hk1)
      have c0 := B1.out.cell (i := 0) rfl
      have c1 := B1.out.cell (i := 1) rfl
      have c2 := B1.out.cell (i := 2) rfl
      go_wp2_with fail
      go_ret
      exact ⟨rfl, K1.out⟩
    · have dh2 : decide (100000 < rate) = false := decide_eq_false h2
      by_cases h3 : burst < 1
      · have dh3 : decide (burst < 1) = true := decide_eq_true h3
        clear h
        go_enter Try.func4, Try.ntmps4
        go_upto_region 3 with (go_at_call 5; refine (HA.out _).mono ?_; rintro e w1 ⟨rfl, hk1⟩; have K1 := hx (((Kept.refl [] w).alloc _).trans0 hk1); have B1 := hx (hk1.blk HB.out (by simp)); clear hk1)
        have c0 := B1.out.cell (i := 0) rfl
        have c1 := B1.out.cell (i := 1) rfl
        have c2 := B1.out.cell (i := 2) rfl
        go_wp2_with fail
        go_ret
        exact ⟨rfl, K1.out⟩
      · have dh3 : decide (burst < 1) = false := decide_eq_false h3
        by_cases h4 : 100000 < burst
        · have dh4 : decide (100000 < burst) = true := decide_eq_true h4
          clear h
          go_enter Try.func4, Try.ntmps4
          go_upto_region 3 with (go_at_call 5; refine (HA.out _).mono ?_; rintro e w1 ⟨rfl, hk1⟩; have K1 := hx (((Kept.refl [] w).alloc _).trans0 hk1); have B1 := hx (hk1.blk HB.out (by simp)); clear hk1)
          have c0 := B1.out.cell (i := 0) rfl
          have c1 := B1.out.cell (i := 1) rfl
          have c2 := B1.out.cell (i := 2) rfl
          go_wp2_with fail
          go_ret
          exact ⟨rfl, K1.out⟩
        · have dh4 : decide (100000 < burst) = false := decide_eq_false h4
          by_cases h5 : room0 < 1
          · have dh5 : decide (room0 < 1) = true := decide_eq_true h5
            clear h
            go_enter Try.func4, Try.ntmps4
            go_upto_region 3 with (go_at_call 5; refine (HA.out _).mono ?_; rintro e w1 ⟨rfl, hk1⟩; have K1 := hx (((Kept.refl [] w).alloc _).trans0 hk1); have B1 := hx (hk1.blk HB.out (by simp)); clear hk1)
            have c0 := B1.out.cell (i := 0) rfl
            have c1 := B1.out.cell (i := 1) rfl
            have c2 := B1.out.cell (i := 2) rfl
            go_wp2_with fail
            go_ret
            exact ⟨rfl, K1.out⟩
          · have dh5 : decide (room0 < 1) = false := decide_eq_false h5
            have h6 : 256 < room0 := by omega
            have dh6 : decide (256 < room0) = true := decide_eq_true h6
            clear h
            go_enter Try.func4, Try.ntmps4
            go_upto_region 3 with (go_at_call 5; refine (HA.out _).mono ?_; rintro e w1 ⟨rfl, hk1⟩; have K1 := hx (((Kept.refl [] w).alloc _).trans0 hk1); have B1 := hx (hk1.blk HB.out (by simp)); clear hk1)
            have c0 := B1.out.cell (i := 0) rfl
            have c1 := B1.out.cell (i := 1) rfl
            have c2 := B1.out.cell (i := 2) rfl
            go_wp2_with fail
            go_ret
            exact ⟨rfl, K1.out⟩
end Go.Proofs.Ytgdofgckjkmhjaa.Mp
namespace Go.Proofs.Ytgdofgckjkmhjaa.Mp
open Go Go.RowKit
theorem Ok.mono2 {m : Ms} {k t k2 t2 : Int} (o : Ok m k t) (hk : k ≤ k2) (ht : t ≤ t2) : Ok m k2 t2 :=
  ⟨o.p0.mono hk ht, o.p1.mono hk ht, o.rt, o.burst, o.held, o.spent, o.full, o.room, ⟨o.turns.1, by have := o.turns; omega⟩, o.len, o.sess, o.now, ⟨o.drop.1, by have := o.drop; omega⟩, ⟨o.hold.1, by have := o.hold; omega⟩, o.its⟩
def arN (n : Nat × Nat) : List Value := [.int .u32 (n.1 : Int), .int .u32 (n.2 : Int)]
/-- What holds all along. -/
structure BdA (w wr : World) (s b q gn rt : Nat) (burst room : Int) (v : Value) (m : Ms) (n : Nat × Nat) : Prop where
  sr : Sr wr s b q v m
  kept : Kept [] w wr
  own : ∀ g, g ∈ own s b q v → w.heap.size ≤ g
  fix : fix3 m = (rt, burst, room)
  arr : Blk wr gn (arN n) 41
  gn : w.heap.size ≤ gn ∧ gn ∉ Mp.own s b q v
/-- At the head of a round. -/
structure BdI (w wr : World) (s b q gn rt : Nat) (burst room : Int) (v : Value) (m : Ms) (i : Nat) (bytes ticks : Int) : Prop where
  a : BdA w wr s b q gn rt burst room v m (nms m)
  ok : Ok m i (201 * (i : Int))
  bud : m.held + bytes ≤ burst + (rt : Int) * ticks
  by0 : 0 ≤ bytes
  tk : 0 ≤ ticks ∧ ticks ≤ 100 * (i : Int)
/-- Behind a call: what has gone lies in a row. -/
structure MdI (w wx : World) (s b q gn rt : Nat) (burst room : Int) (v : Value) (m : Ms) (n : Nat × Nat) (l : List (Nat × Qd.Dv)) (u : Value) (k t : Int) (bytes ticks : Int) : Prop where
  a : BdA w wx s b q gn rt burst room v m n
  ok : Ok m k t
  bud : m.held + (bytes + bytesOf l) ≤ burst + (rt : Int) * ticks
  run : ∃ its, Run its n l (nms m)
  dat : ∀ y, y ∈ l → Bts wx y.2.p y.2.d.data.length y.2.c y.2.d.data
  row : ∃ base, w.heap.size ≤ base ∧ wx.ownsRow base 38 12 u l.length (outC l)
  len : l.length ≤ 1000
theorem Run.dat {w : World} {s : List Qd.It} (hs : ∀ it, it ∈ s → Bts w it.v.p it.v.d.data.length it.v.c it.v.d.data) : ∀ {l : List (Nat × Qd.Dv)} {a b : Nat × Nat}, Run s a l b → ∀ y, y ∈ l → Bts w y.2.p y.2.d.data.length y.2.c y.2.d.data
  | [], _, _, _, y, hy => by simp at hy
  | z :: l, a, b, h, y, hy => by
    rcases List.mem_cons.1 hy with rfl | hy
    · rcases h.1.2.2.2.2 with ⟨it, h1, h2, h3, h4⟩ | ⟨h2, h3, h4⟩
      · rw [h2, h3, h4]; exact hs it h1
      · rw [h2, h3, h4]
        exact ⟨rfl, Nat.le_refl _, by unfold maxLen; omega, fun _ => rfl, fun j hj => by simp at hj⟩
    · exact Run.dat hs h.2 y hy
theorem bytes_nonneg : ∀ l : List (Nat × Qd.Dv), 0 ≤ bytesOf l
  | [] => Int.le_refl _
  | y :: l => by
    have h := bytes_nonneg l
    show 0 ≤ sizeI y.2 + bytesOf l
    unfold sizeI
    omega
theorem Blk.type {w : World} {a : Nat} {xs ys : List Value} {T U : TypeId} (h : Blk w a xs T) (g : Blk w a ys U) : T = U := by
  apply Classical.byContradiction
  intro hn
  exact blk_ne h g hn rfl
/-- The numbers' block is none of the data's, nor the row's. -/
theorem arr_dat {w : World} {gn : Nat} {n : Nat × Nat} (h : Blk w gn (arN n) 41) {a : Option Addr} {k c : Nat} {d : List UInt8} (hb : Bts w a k c d) : ∀ g o, a = some (⟨g, o, none⟩ : Addr) → d ≠ [] → g ∉ [gn] := by
  intro g o ha hd hg
  simp only [List.mem_cons, List.not_mem_nil, or_false] at hg
  subst hg
  obtain ⟨g2, o2, h1, h2⟩ := hb.hcell 0 (by cases d with | nil => exact absurd rfl hd | cons _ _ => simp)
  rw [ha] at h1
  simp only [Option.some.injEq, Addr.mk.injEq, and_true] at h1
  obtain ⟨rfl, rfl⟩ := h1
  unfold Blk at h
  unfold World.cell? at h2
  rw [h] at h2
  simp only at h2
  match o, h2 with
  | 0, h2 => simp [arN] at h2
  | 1, h2 => simp [arN] at h2
  | o + 2, h2 => simp [arN] at h2
theorem arr_row {w : World} {gn base : Nat} {n : Nat × Nat} (h : Blk w gn (arN n) 41) {u : Value} {k : Nat} {xs : List Value} (hr : w.ownsRow base 38 12 u k xs) : u.ownBlock ≠ some gn := own_ne hr h (by decide)
/-- The sender's own blocks change: the numbers' do not. -/
theorem BdA.next {w wr wx : World} {s b q gn rt : Nat} {burst room : Int} {v v2 : Value} {m m2 : Ms} {n : Nat × Nat} (h : BdA w wr s b q gn rt burst room v m n) (r : Sr wx s b q v2 m2) (hk : Kept (Mp.own s b q v) wr wx) (hv : v2.ownBlock = v.ownBlock ∨ ∃ g, v2.ownBlock = some g ∧ wr.heap.size ≤ g) (hf : fix3 m2 = fix3 m) : BdA w wx s b q gn rt burst room v2 m2 n :=
  ⟨r, h.kept.trans hk (fun _ h => h) (fun g hg => .inr (h.own g hg)), own_fresh h.own hv h.kept.size, hf.trans h.fix, hk.blk h.arr h.gn.2, h.gn.1, fun hg => by
    simp only [Mp.own, List.mem_cons, Option.mem_toList] at hg
    have h2 := h.gn.2
    have h3 := h.arr.lt
    simp only [Mp.own, List.mem_cons, Option.mem_toList] at h2
    rcases hg with h1 | h1 | h1 | h1
    · exact h2 (.inl h1)
    · exact h2 (.inr (.inl h1))
    · exact h2 (.inr (.inr (.inl h1)))
    · rcases hv with e | ⟨g2, e, hs⟩
      · rw [e] at h1; exact h2 (.inr (.inr (.inr h1)))
      · rw [e] at h1
        simp only [Option.some.injEq] at h1
        omega⟩
theorem BdA.keep {w wr wx : World} {s b q gn rt : Nat} {burst room : Int} {v : Value} {m : Ms} {n : Nat × Nat} (h : BdA w wr s b q gn rt burst room v m n) (hk : Kept [] wr wx) : BdA w wx s b q gn rt burst room v m n :=
  ⟨h.sr.kept hk, h.kept.trans0 hk, h.own, h.fix, hk.blk h.arr (by simp), h.gn⟩
theorem BdI.keep {w wr wx : World} {s b q gn rt : Nat} {burst room : Int} {v : Value} {m : Ms} {i : Nat} {bytes ticks : Int} (h : BdI w wr s b q gn rt burst room v m i bytes ticks) (hk : Kept [] wr wx) : BdI w wx s b q gn rt burst room v m i bytes ticks :=
  ⟨h.a.keep hk, h.ok, h.bud, h.by0, h.tk⟩
/-- Nothing has gone. -/
theorem md_none {w wr wx : World} {s b q gn rt : Nat} {burst room : Int} {v v2 : Value} {m m2 : Ms} {i : Nat} {bytes ticks : Int} (h : BdI w wr s b q gn rt burst room v m i bytes ticks) (r : Sr wx s b q v2 m2) (hk : Kept (Mp.own s b q v) wr wx) (hv : v2.ownBlock = v.ownBlock ∨ ∃ g, v2.ownBlock = some g ∧ wr.heap.size ≤ g) (hf : fix3 m2 = fix3 m) (hn : nms m2 = nms m) (hh : m2.held = m.held) (ho : Ok m2 ((i + 1 : Nat) : Int) (201 * ((i + 1 : Nat) : Int))) :
    MdI w wx s b q gn rt burst room v2 m2 (nms m) [] (.slice none 0 0) ((i + 1 : Nat) : Int) (201 * ((i + 1 : Nat) : Int)) bytes ticks :=
  ⟨h.a.next r hk hv hf, ho, by rw [hh]; simpa [bytesOf] using h.bud, ⟨[], hn.symm⟩, fun y hy => by simp at hy, ⟨w.heap.size, Nat.le_refl _, World.ownsRow_nil _ _ _ _⟩, by simp⟩
theorem md_push {w wr wx : World} {s b q gn rt : Nat} {burst room : Int} {v : Value} {m : Ms} {i : Nat} {bytes ticks rank : Int} {d : Dg} {e : Ending} (h : BdI w wr s b q gn rt burst room v m i bytes ticks) (hp : PushQ wr s b q v m rank d e wx) :
    ∃ v2 m2, MdI w wx s b q gn rt burst room v2 m2 (nms m) [] (.slice none 0 0) ((i + 1 : Nat) : Int) (201 * ((i + 1 : Nat) : Int)) bytes ticks := by
  obtain ⟨_, v2, m2, hr, hk, hv, hm⟩ := hp
  refine ⟨v2, m2, ?_⟩
  by_cases hc : chk (pushD m d) = 0
  · rw [if_pos hc] at hm
    obtain ⟨x, hx, rfl⟩ := hm
    exact md_none h hr hk hv rfl rfl rfl ((push_ok h.ok hc hx).mono2 (by push_cast; omega) (by push_cast; omega))
  · rw [if_neg hc] at hm
    obtain ⟨rfl, rfl⟩ := hm
    exact md_none h hr hk hv rfl rfl rfl (h.ok.mono2 (by push_cast; omega) (by push_cast; omega))
theorem md_heard {w wr wx : World} {s b q gn rt : Nat} {burst room : Int} {v : Value} {m : Ms} {i j th : Nat} {bytes ticks : Int} (h : BdI w wr s b q gn rt burst room v m i bytes ticks) (hth : th < 4294967296) (r : Sr wx s b q v (m.setW j (heardP (m.way j) th).1)) (hk : Kept [s] wr wx) :
    MdI w wx s b q gn rt burst room v (m.setW j (heardP (m.way j) th).1) (nms m) [] (.slice none 0 0) ((i + 1 : Nat) : Int) (201 * ((i + 1 : Nat) : Int)) bytes ticks :=
  md_none h r (hk.mono (cs := Mp.own s b q v) (fun x hx => .inl (by simp at hx; simp [Mp.own, hx]))) (.inl rfl) (fix_set _ _ _) (nms_set (heardP_next _ _)) (setW_same _ _ _).2.2.1
    ((Ok.setW (h.ok.mono2 (k2 := (i : Int) + 1) (t2 := 201 * (i : Int)) (by omega) (by omega)) (Int.le_refl _) j _ (heard_ok _ th i _ (h.ok.way j) hth (by omega) (by omega))).mono2 (by push_cast; omega) (by push_cast; omega))
theorem md_flush {w wr wx : World} {s b q gn rt : Nat} {burst room : Int} {v v2 u : Value} {m : Ms} {i : Nat} {bytes ticks : Int} (h : BdI w wr s b q gn rt burst room v m i bytes ticks)
    (ho : wx.ownsRow wr.heap.size 38 12 u (flushM m).2.length (outC (flushM m).2)) (r : Sr wx s b q v2 (flushM m).1) (hk : Kept (Mp.own s b q v) wr wx) (hv : v2.ownBlock = v.ownBlock) (hok : Ok (flushM m).1 (i : Int) (201 * (i : Int) + 1)) :
    MdI w wx s b q gn rt burst room v2 (flushM m).1 (nms m) (flushM m).2 u ((i + 1 : Nat) : Int) (201 * ((i + 1 : Nat) : Int)) bytes ticks := by
  have hc : ∀ x, x ∈ m.s → chk x.v.d = 0 := fun x hx => (h.ok.its x hx).1
  have hrun := flush_run m.s m rfl hc
  refine ⟨h.a.next r hk (.inl hv) (fix_flush _ _), hok.mono2 (by push_cast; omega) (by push_cast; omega), budget_flush hc h.bud, ⟨m.s, hrun.1⟩, ?_, ⟨wr.heap.size, h.a.kept.size, ho⟩, ?_⟩
  · exact Run.dat (fun it hit => ((h.a.sr.dat it hit).next hk (fun g hg => .inl hg) (bad2 := Mp.own s b q v) (fun g hg => .inl hg)).bts) hrun.1
  · have h1 := flush_len m.s m
    have h2 := h.ok.len
    have h3 := h.ok.room
    show (flushL m.s m).2.length ≤ 1000
    omega
/-- The room holds. -/
theorem MdI.room {w wx : World} {s b q gn rt : Nat} {burst room : Int} {v u : Value} {m : Ms} {n : Nat × Nat} {l : List (Nat × Qd.Dv)} {k t bytes ticks : Int} (h : MdI w wx s b q gn rt burst room v m n l u k t bytes ticks) : (m.s.length : Int) ≤ room := by
  have h1 := h.ok.len
  have h2 := h.a.fix
  simp only [fix3, Prod.mk.injEq] at h2
  omega
/-- So many ticks have gone by in a round. -/
def Tks (w wr wx : World) (s b q gn rt : Nat) (burst room : Int) (v : Value) (m0 : Ms) (base : Nat) (m : Ms) (l : List (Nat × Qd.Dv)) (u : Value) (i k : Nat) (bytes ticks : Int) : Prop :=
  BdA w wx s b q gn rt burst room v m (nms m0) ∧ Ok m (i : Int) (201 * (i : Int) + 2 * (k : Int)) ∧ m.held + (bytes + bytesOf l) ≤ burst + (rt : Int) * (ticks + (k : Int)) ∧ Run [] (nms m0) l (nms m) ∧ wx.ownsRow base 38 12 u l.length (outC l) ∧ l.length ≤ 2 * k ∧ m.s = m0.s ∧ Kept (Mp.own s b q v) wr wx
theorem tks_start {w wr wx : World} {s b q gn rt : Nat} {burst room : Int} {v : Value} {m : Ms} {i : Nat} {bytes ticks : Int} (base : Nat) (h : BdI w wr s b q gn rt burst room v m i bytes ticks) (hk : Kept [] wr wx) : Tks w wr wx s b q gn rt burst room v m base m [] (.slice none 0 0) i 0 bytes ticks :=
  ⟨h.a.keep hk, h.ok.mono2 (Int.le_refl _) (by push_cast; omega), by simpa [bytesOf] using h.bud, rfl, World.ownsRow_nil _ _ _ _, by simp, rfl, hk.mono (by simp)⟩
theorem tks_end {w wr wx : World} {s b q gn rt : Nat} {burst room : Int} {v : Value} {m0 m : Ms} {base : Nat} {l : List (Nat × Qd.Dv)} {u : Value} {i k : Nat} {bytes ticks : Int} (h : Tks w wr wx s b q gn rt burst room v m0 base m l u i k bytes ticks) (hb : w.heap.size ≤ base) (hk : k ≤ 100) :
    MdI w wx s b q gn rt burst room v m (nms m0) l u ((i + 1 : Nat) : Int) (201 * ((i + 1 : Nat) : Int)) bytes (ticks + (k : Int)) :=
  ⟨h.1, h.2.1.mono2 (by push_cast; omega) (by push_cast; omega), h.2.2.1, ⟨[], h.2.2.2.1⟩, Run.dat (s := []) (fun it hit => by simp at hit) h.2.2.2.1, ⟨base, hb, h.2.2.2.2.1⟩, by have := h.2.2.2.2.2.1; omega⟩
/-- One more: what it tells is appended. -/
theorem tks_next {w wr wx w3 w4 : World} {s b q gn rt : Nat} {burst room : Int} {v : Value} {m0 m : Ms} {l : List (Nat × Qd.Dv)} {u u2 : Value} {i k : Nat} {bytes ticks : Int} (h0 : BdI w wr s b q gn rt burst room v m0 i bytes ticks) (h : Tks w wr wx s b q gn rt burst room v m0 wr.heap.size m l u i k bytes ticks)
    (hr : Sr w3 s b q v (tickM m).1) (hk : Kept [s, b] wx w3) (ho : w4.ownsRow wr.heap.size 38 12 u2 (l ++ (tickM m).2).length (outC (l ++ (tickM m).2))) (hrow : w3.ownsRow wr.heap.size 38 12 u l.length (outC l)) (hg : w3.grownBy w4 u.ownBlock) :
    Tks w wr w4 s b q gn rt burst room v m0 wr.heap.size (tickM m).1 (l ++ (tickM m).2) u2 i (k + 1) bytes ticks := by
  obtain ⟨ha, hok, hbud, hrun, hown, hlen, hs, hkk⟩ := h
  have hts : (tickM m).1.s = m.s := acc_s m 2
  have hfx : fix3 m = (rt, burst, room) := ha.fix
  simp only [fix3, Prod.mk.injEq] at hfx
  have h3 : BdA w w3 s b q gn rt burst room v (tickM m).1 (nms m0) := ha.next hr (hk.mono (cs := Mp.own s b q v) (fun x hx => .inl (by simp at hx; rcases hx with rfl | rfl <;> simp [Mp.own]))) (.inl rfl) (fix_tick m)
  have hgr : ∀ g, u.ownBlock = some g → wr.heap.size ≤ g := fun g hg2 => (hrow.lt g hg2).1
  have hk4 : Kept u.ownBlock.toList w3 w4 := (Kept.refl _ _).grown hg (fun g e => .inl (by simp [e]))
  have hr4 : Sr w4 s b q v (tickM m).1 := hr.row hrow hg h0.a.sr.own_lt (fun x hx g o hp hd => (h0.a.sr.dat x (by rw [← hs, ← hts]; exact hx)).lt hp hd)
  have hga : gn < wr.heap.size := h0.a.arr.lt
  refine ⟨⟨hr4, h3.kept.trans hk4 (fun _ h => h) (fun g hg2 => .inr (by have := hgr g (by simpa using hg2); have := h0.a.kept.size; omega)), h3.own, h3.fix, hk4.blk h3.arr (fun hg2 => by have := hgr gn (by simpa using hg2); omega), h3.gn⟩, ?_, ?_, Run.app hrun (tick_run [] m).1, ho, ?_, hts.trans hs, ?_⟩
  · have h2 := acc_ok hok (by omega) 2
    rw [show 201 * (i : Int) + 2 * (k : Int) + ((2 : Nat) : Int) = 201 * (i : Int) + 2 * ((k + 1 : Nat) : Int) by push_cast; omega] at h2
    exact h2
  · have h2 := budget_tick (B := burst + (rt : Int) * (ticks + (k : Int))) hbud
    rw [bytes_app, hfx.1] at *
    have e : (rt : Int) * (ticks + ((k + 1 : Nat) : Int)) = (rt : Int) * (ticks + (k : Int)) + (rt : Int) := by
      rw [show ticks + ((k + 1 : Nat) : Int) = (ticks + (k : Int)) + 1 by push_cast; omega, Int.mul_add, Int.mul_one]
    omega
  · have h2 := acc_len m 2
    have e : (tickM m).2.length ≤ 2 := h2
    rw [List.length_append]
    omega
  · exact (hkk.trans hk (fun _ h => h) (fun x hx => .inl (by simp at hx; rcases hx with rfl | rfl <;> simp [Mp.own]))).trans hk4 (fun _ h => h) (fun g hg2 => .inr (hgr g (by simpa using hg2)))
/-- Where the reading of what has gone stands. -/
structure RdI (wx wr : World) (gn : Nat) (n : Nat × Nat) (l : List (Nat × Qd.Dv)) (fin : Nat × Nat) (k : Nat) (T bytes : Int) : Prop where
  kept : Kept [gn] wx wr
  arr : Blk wr gn (arN n) 41
  run : ∃ its, Run its n (l.drop k) fin
  sum : bytes + bytesOf (l.drop k) = T
  by0 : 0 ≤ bytes
theorem arr_set {w : World} {gn : Nat} {n : Nat × Nat} (h : Blk w gn (arN n) 41) {p : Nat} (hp : p < 2) : Blk (w.setCell ⟨gn, p, none⟩ (.int .u32 ((nextU (nxt n p) : Nat) : Int))) gn (arN (bump n p)) 41 := by
  have h2 := h.set p (.int .u32 ((nextU (nxt n p) : Nat) : Int))
  rcases two hp with rfl | rfl
  · exact h2
  · exact h2
theorem arr_at {w : World} {gn : Nat} {n : Nat × Nat} (h : Blk w gn (arN n) 41) {p : Nat} (hp : p < 2) : w.cell? ⟨gn, p, none⟩ = some (.int .u32 ((nxt n p : Nat) : Int)) := by
  rcases two hp with rfl | rfl
  · exact h.cell rfl
  · exact h.cell rfl
theorem RdI.step {wx wr w2 : World} {gn k : Nat} {n fin : Nat × Nat} {l : List (Nat × Qd.Dv)} {T bytes : Int} (h : RdI wx wr gn n l fin k T bytes) {y : Nat × Qd.Dv} (hy : l[k]? = some y) (hk : Kept [] wr w2) {w3 : World} (hw : w3 = w2.setCell ⟨gn, y.1, none⟩ (.int .u32 ((nextU (nxt n y.1) : Nat) : Int))) {w4 : World} (hk4 : Kept [] w3 w4) :
    RdI wx w4 gn (bump n y.1) l fin (k + 1) T (bytes + (33 + (y.2.d.data.length : Int))) := by
  obtain ⟨hkl, hye⟩ := List.getElem?_eq_some_iff.1 hy
  have hd : l.drop k = y :: l.drop (k + 1) := by rw [List.drop_eq_getElem_cons hkl, hye]
  obtain ⟨its, hrun⟩ := h.run
  have hsum := h.sum
  rw [hd] at hrun hsum
  have hp := hrun.1.1
  subst hw
  exact ⟨((h.kept.trans0 hk).setCell (.inl (by simp)) _).trans0 hk4, hk4.blk (arr_set (hk.blk h.arr (by simp)) hp) (by simp), ⟨its, hrun.2⟩, by rw [← hsum]; show _ = bytes + (sizeI y.2 + bytesOf (l.drop (k + 1))); unfold sizeI; omega, by have := h.by0; omega⟩
/-- The one that is read. -/
theorem RdI.one {wx wr : World} {gn k : Nat} {n fin : Nat × Nat} {l : List (Nat × Qd.Dv)} {T bytes : Int} (h : RdI wx wr gn n l fin k T bytes) {y : Nat × Qd.Dv} (hy : l[k]? = some y) : y.1 < 2 ∧ y.2.d.path = (y.1 : Int) ∧ y.2.d.seq = nxt n y.1 ∧ chk y.2.d = 0 := by
  obtain ⟨hkl, hye⟩ := List.getElem?_eq_some_iff.1 hy
  have hd : l.drop k = y :: l.drop (k + 1) := by rw [List.drop_eq_getElem_cons hkl, hye]
  obtain ⟨its, hrun⟩ := h.run
  rw [hd] at hrun
  exact ⟨hrun.1.1, hrun.1.2.1, hrun.1.2.2.1, hrun.1.2.2.2.1⟩
theorem Sr.not_own {w : World} {s b q z : Nat} {v : Value} {m : Ms} {ys : List Value} {T : TypeId} (r : Sr w s b q v m) (hz : Blk w z ys T) (h1 : T ≠ 64) (h2 : T ≠ 76) (h3 : T ≠ 79) (h4 : T ≠ 81) : z ∉ own s b q v := by
  obtain ⟨h, hq, _⟩ := r.hq
  intro hg
  simp only [own, List.mem_cons, Option.mem_toList] at hg
  rcases hg with rfl | rfl | rfl | hg
  · exact blk_ne hz r.hs h1 rfl
  · exact blk_ne hz r.hb h2 rfl
  · exact blk_ne hz hq.hq h3 rfl
  · exact own_ne hq.own hz h4 hg
theorem MdI.top {w wx : World} {s b q gn rt : Nat} {burst room : Int} {v u : Value} {m : Ms} {n : Nat × Nat} {l : List (Nat × Qd.Dv)} {k t bytes ticks : Int} (h : MdI w wx s b q gn rt burst room v m n l u k t bytes ticks) (h1 : rt ≤ 100000) (h2 : burst ≤ 100000) (h3 : 0 ≤ ticks ∧ ticks ≤ 6000) : (rt : Int) * ticks ≤ 600000000 ∧ 0 ≤ (rt : Int) * ticks ∧ bytes + bytesOf l ≤ burst + (rt : Int) * ticks := by
  have e1 : (rt : Int) * ticks ≤ 100000 * 6000 := Int.mul_le_mul (by omega) h3.2 h3.1 (by omega)
  have e2 : 0 ≤ (rt : Int) * ticks := Int.mul_nonneg (by omega) h3.1
  have h4 := h.bud
  have h5 := h.ok.held
  omega
theorem RdI.top {wx wr : World} {gn k : Nat} {n fin : Nat × Nat} {l : List (Nat × Qd.Dv)} {T bytes : Int} (h : RdI wx wr gn n l fin k T bytes) {y : Nat × Qd.Dv} (hy : l[k]? = some y) : 0 ≤ bytes ∧ bytes + (33 + (y.2.d.data.length : Int)) ≤ T := by
  obtain ⟨hkl, hye⟩ := List.getElem?_eq_some_iff.1 hy
  have hd : l.drop k = y :: l.drop (k + 1) := by rw [List.drop_eq_getElem_cons hkl, hye]
  have hsum := h.sum
  rw [hd] at hsum
  have h2 : bytes + (sizeI y.2 + bytesOf (l.drop (k + 1))) = T := hsum
  have h3 := bytes_nonneg (l.drop (k + 1))
  have h4 := h.by0
  unfold sizeI at h2
  omega
theorem RdI.last {wx wr : World} {gn : Nat} {n fin : Nat × Nat} {l : List (Nat × Qd.Dv)} {T bytes : Int} (h : RdI wx wr gn n l fin l.length T bytes) : bytes = T := by
  have h2 := h.sum
  rw [List.drop_length] at h2
  simpa [bytesOf] using h2
theorem RdI.keep {wx wr w2 : World} {gn k : Nat} {n fin : Nat × Nat} {l : List (Nat × Qd.Dv)} {T bytes : Int} (h : RdI wx wr gn n l fin k T bytes) (hk : Kept [] wr w2) : RdI wx w2 gn n l fin k T bytes :=
  ⟨h.kept.trans0 hk, hk.blk h.arr (by simp), h.run, h.sum, h.by0⟩
/-- At the end of a round. -/
theorem bd_next {w wx wr : World} {s b q gn rt : Nat} {burst room : Int} {v u : Value} {m : Ms} {n n2 : Nat × Nat} {l : List (Nat × Qd.Dv)} {i : Nat} {bytes b2 ticks : Int} (h : MdI w wx s b q gn rt burst room v m n l u ((i + 1 : Nat) : Int) (201 * ((i + 1 : Nat) : Int)) bytes ticks) (hr : RdI wx wr gn n2 l (nms m) l.length (bytes + bytesOf l) b2) (ht : 0 ≤ ticks ∧ ticks ≤ 100 * ((i + 1 : Nat) : Int)) :
    BdI w wr s b q gn rt burst room v m (i + 1) b2 ticks := by
  obtain ⟨its, hrun⟩ := hr.run
  have hsum := hr.sum
  rw [List.drop_length] at hrun hsum
  have e : n2 = nms m := hrun
  subst e
  have hb : b2 = bytes + bytesOf l := by simpa [bytesOf] using hsum
  have hne : ∀ g, g ∈ [gn] → g ∉ Mp.own s b q v := fun g hg => by simp at hg; subst hg; exact h.a.gn.2
  refine ⟨⟨h.a.sr.but hr.kept hne (fun x hx g o hp hd => arr_dat h.a.arr (h.a.sr.dat x hx).bts g o hp hd), h.a.kept.trans hr.kept (fun _ h => h) (fun g hg => .inr (by simp at hg; subst hg; exact h.a.gn.1)), h.a.own, h.a.fix, hr.arr, h.a.gn⟩, h.ok, by rw [hb]; exact h.bud, hr.by0, ht⟩
end Go.Proofs.Ytgdofgckjkmhjaa.Mp
namespace Go.Proofs.Ytgdofgckjkmhjaa.Mp
open Go Go.RowKit
open Qd (dvl dv0 dvl_one infoDg step_of take_by)
def oq0 : Oq := ⟨0, 0, Qd.dg0, none, 0, 0, 0, 0⟩
theorem infoOq : (Try.prog.info? 43).map (·.size) = some 16 := by kernel_rfl
theorem oqc_one (y : Oq) : ∀ u ∈ oqc y, u.oneCell' = true := by
  intro u hu
  simp only [oqc, dgl, List.mem_cons, List.mem_append, List.not_mem_nil, or_false] at hu
  rcases hu with rfl | rfl | h | h
  · rfl
  · rfl
  · rcases h with rfl | rfl | rfl | rfl | rfl | rfl | rfl | rfl | rfl | rfl | rfl <;> rfl
  · rcases h with rfl | rfl | rfl <;> rfl
theorem outC_in : ∀ (l : List (Nat × Qd.Dv)) (i : Nat) y, l[i]? = some y → ∀ j u, (snt (y.1 : Int) y.2)[j]? = some u → (outC l)[i * 12 + j]? = some u
  | [], i, y, h, _, _, _ => by simp at h
  | z :: l, 0, y, h, j, u, hu => by
    simp only [List.getElem?_cons_zero, Option.some.injEq] at h
    subst h
    have e : outC (z :: l) = snt (z.1 : Int) z.2 ++ outC l := by simp [outC]
    rw [e, List.getElem?_append_left (by have := (List.getElem?_eq_some_iff.1 hu).1; omega), show 0 * 12 + j = j by omega]
    exact hu
  | z :: l, i + 1, y, h, j, u, hu => by
    have e : outC (z :: l) = snt (z.1 : Int) z.2 ++ outC l := by simp [outC]
    have hl : (snt (z.1 : Int) z.2).length = 12 := rfl
    rw [e, List.getElem?_append_right (by rw [hl]; omega), hl, show (i + 1) * 12 + j - 12 = i * 12 + j by omega]
    exact outC_in l i y (by simpa using h) j u hu
theorem own_outR {w : World} {base n c : Nat} {a : Option Addr} {l : List (Nat × Qd.Dv)} (h : w.ownsRow base 38 12 (.slice a n c) n (outC l)) {i : Nat} {y : Nat × Qd.Dv} (hi : i < n) (hy : l[i]? = some y) : ∃ g, a = some ⟨g, 0, none⟩ ∧ w.rangeAt g (i * 12) (snt (y.1 : Int) y.2) := by
  rcases h.2 with ⟨_, hn⟩ | ⟨g, cap, cur, he, _, hg, hn, hc, hs, ht⟩
  · omega
  · simp only [Value.slice.injEq] at he
    refine ⟨g, he.1, fun j u hu => ?_⟩
    have hB : Blk w g cur.toList 38 := hg
    refine hB.cell ?_
    have hj : j < 12 := (List.getElem?_eq_some_iff.1 hu).1
    have h2 : (cur.toList.take (n * 12))[i * 12 + j]? = (outC l)[i * 12 + j]? := by rw [ht]
    rw [List.getElem?_take_of_lt (by omega), outC_in l i y hy j u hu] at h2
    exact h2
set_option linter.unusedSimpArgs false in
set_option maxRecDepth 100000 in
set_option maxHeartbeats 25600000 in
theorem bounds_good (rt : Nat) (burst room0 : Int) (a : Option Addr) (c : Nat) (xs : List Oq) (w : World) (hr : OqR w a xs) (h1 : 1 ≤ rt ∧ rt ≤ 100000) (h2 : 1 ≤ burst ∧ burst ≤ 100000) (h3 : 1 ≤ room0 ∧ room0 ≤ 256) :
    Calls Try.prog 4 #[.agg #[.int .i64 (rt : Int), .int .i64 burst, .int .i64 room0], .slice a xs.length c] w fun e w' => e = .returned (.bool true) ∧ Kept [] w w' := by
  have HA := hx (fun W => awake_m W)
  have HB := hx (Blk.new w [.int .i64 (rt : Int), .int .i64 burst, .int .i64 room0] 23)
  have HOQ := hx hr
  have HNW := hx (fun W => new_m 7 rt burst room0 W (by omega) (by omega) (by omega))
  have HSZ := hx (And.intro h1 (And.intro h2 h3))
  obtain ⟨n, hn⟩ : ∃ n, xs.length = n := ⟨_, rfl⟩
  rw [hn]
  have HLN := hx hn
  have d1 : decide ((rt : Int) < 1) = false := decide_eq_false (by omega)
  have d2 : decide ((100000 : Int) < (rt : Int)) = false := decide_eq_false (by omega)
  have d3 : decide (burst < 1) = false := decide_eq_false (by omega)
  have d4 : decide (100000 < burst) = false := decide_eq_false (by omega)
  have d5 : decide (room0 < 1) = false := decide_eq_false (by omega)
  have d6 : decide (256 < room0) = false := decide_eq_false (by omega)
  clear hr hn h1 h2 h3
  go_enter Try.func4, Try.ntmps4
  go_upto_region 3 with (go_at_call 5; refine (HA.out _).mono ?_; rintro e w1 ⟨rfl, hk1⟩; have K1 := hx (((Kept.refl [] w).alloc _).trans0 hk1); have B1 := hx (hk1.blk HB.out (by simp)); clear hk1)
  have c0 := B1.out.cell (i := 0) rfl
  have c1 := B1.out.cell (i := 1) rfl
  have c2 := B1.out.cell (i := 2) rfl
  go_upto_region 9 with (go_at_call 6; refine (HNW.out _).mono ?_; rintro e w2 ⟨s, b, q, rfl, hr2, hk2, hs, hb, hq⟩; have R2 := hx hr2; have K2 := hx (K1.out.trans0 hk2); have hz1 := K1.out.size; have F2 := hx (show w.heap.size ≤ s ∧ w.heap.size ≤ b ∧ w.heap.size ≤ q by omega); have BZ := hx (hk2.blk B1.out (by simp)); clear hr2 hk2 hs hb hq hz1)
  clear d1 d2 d3 d4 d5 d6 c0 c1 c2 B1 K1 HB HA HNW
  go_upto_region 10 with fail
  obtain ⟨gn, hgn⟩ : ∃ gn, w2.heap.size = gn := ⟨_, rfl⟩
  have BN := Blk.new w2 [.int .u32 0, .int .u32 0] 41
  rw [hgn] at BN
  generalize hw3 : World.alloc w2 _ = w3
  rw [hgn]
  have KN := hx (show Kept [] w2 w3 by rw [← hw3]; exact (Kept.refl [] w2).alloc _)
  have BN3 := hx (show Blk w3 gn (arN (0, 0)) 41 by rw [← hw3]; exact BN)
  have I0 := hx (show BdI w w3 s b q gn rt burst room0 (.slice none 0 0) (ms0 7 rt burst room0) 0 0 0 from by
    have hz := HSZ.out
    have f2 := F2.out
    have hws := K2.out.size
    have hown : ∀ g, g ∈ own s b q (Value.slice none 0 0) → w.heap.size ≤ g := fun g hg => by
      simp only [own, Value.ownBlock, List.mem_cons, Option.toList_none, List.not_mem_nil, or_false] at hg
      rcases hg with rfl | rfl | rfl <;> omega
    refine ⟨⟨R2.out.kept KN.out, K2.out.trans0 KN.out, hown, rfl, BN3.out, by omega, fun hg => ?_⟩, ms0_ok 7 rt burst room0 (by omega) (by omega) (by omega) (by omega), ?_, Int.le_refl _, by simp⟩
    · have := R2.out.own_lt gn hg
      omega
    · show burst + 0 ≤ burst + (rt : Int) * 0
      omega)
  have BZ3 := hx (KN.out.blk BZ.out (by simp))
  clear hw3 hgn BN KN BN3 R2 K2 F2 BZ
  go_wp2_with fail
  go_loopw [7, 8, 10] (fun s7 s8 s10 wr => ∃ (i : Nat) (bytes ticks : Int) (m : Ms) (v : Value), s7 = .int .i64 bytes ∧ s8 = .int .i64 ticks ∧ s10 = .int .i64 (i : Int) ∧ Hx (i ≤ n ∧ i ≤ 60) ∧ Hx (BdI w wr s b q gn rt burst room0 v m i bytes ticks) ∧ Hx (Blk wr w.heap.size [.int .i64 (rt : Int), .int .i64 burst, .int .i64 room0] 23)) (fun _ _ s10 _ => n - (intOf s10).toNat)
  case atStart => exact ⟨0, 0, 0, _, _, rfl, rfl, rfl, hx ⟨by omega, by omega⟩, I0, BZ3⟩
  case round =>
    clear I0 BZ3
    obtain ⟨i, bytes, ticks, m, v, rfl, rfl, rfl, HI, HIV, HBZ⟩ := hrel
    by_cases hlt : i < n
    · have hil : (i : Int) < (n : Int) := by omega
      have dil : decide ((i : Int) < (n : Int)) = true := decide_eq_true hil
      by_cases hl6 : i < 60
      · have hi6 : (i : Int) < 60 := by omega
        have di6 : decide ((i : Int) < 60) = true := decide_eq_true hi6
        have HLT := hx (And.intro hlt hl6)
        obtain ⟨y, hy⟩ : ∃ y, xs[i]? = some y := ⟨_, List.getElem?_eq_getElem (by have := HLN.out; omega)⟩
        have hym := List.mem_of_getElem? hy
        obtain ⟨gr, og, rfl, hgl, cr⟩ := (HOQ.out.kept HIV.out.a.kept).at_ i y hy
        have HYO := hx ((HOQ.out.kept HIV.out.a.kept).ok y hym)
        obtain ⟨kd, rk, d, p, cc, nn, wy, th⟩ := y
        clear hy hym hlt hl6
        have BO := Blk.new wr (oqc oq0) 43
        go_upto_region 15 with (first
          | (refine wpList_load_mid rfl 43 (.tmp 74) rfl gr (og + i * 16) rfl (oqc ⟨kd, rk, d, p, cc, nn, wy, th⟩) _ cr Try.underlying43 rfl infoOq ?_)
          | (refine store_blk rfl 43 (.tmp 12) (.tmp 75) rfl wr.heap.size rfl 43 _ (oqc ⟨kd, rk, d, p, cc, nn, wy, th⟩) rfl BO rfl infoOq (oqc_one _) ?_; intro w4 hb4 hk4; have B4 := hx hb4; have K4 := hx (((Kept.refl [] wr).alloc _).trans hk4 (ds := []) (fun _ h => h) (fun x h => by simp at h; subst h; exact .inr (Nat.le_refl _))); clear hb4 hk4))
        clear BO cr hgl
        obtain ⟨go4, hgo4⟩ : ∃ g, wr.heap.size = g := ⟨_, rfl⟩
        rw [hgo4] at B4
        rw [hgo4]
        clear hgo4
        have o0 := B4.out.cell (i := 0) (v := .int .i64 kd) rfl
        go_upto_block 2 with fail
        go_cut [8, 11, 13] from 78 to 115 (fun s8 s11 s13 wx => ∃ (v2 : Value) (m2 : Ms) (l : List (Nat × Qd.Dv)) (au : Option Addr) (cu : Nat) (tk : Int), s8 = .int .i64 tk ∧ s11 = .slice au l.length cu ∧ Hx (0 ≤ tk ∧ tk ≤ 100 * ((i + 1 : Nat) : Int)) ∧ Hx (MdI w wx s b q gn rt burst room0 v2 m2 (nms m) l (.slice au l.length cu) ((i + 1 : Nat) : Int) (201 * ((i + 1 : Nat) : Int)) bytes tk) ∧ Hx (Kept (own s b q v) w4 wx))
        case first =>
          by_cases k0 : kd = 0
          · subst k0
            have HPU := hx (push_m s b q v m i (201 * (i : Int)) rk d p d.data.length cc w4 (HIV.out.a.sr.kept K4.out) HIV.out.ok (by have := HLT.out; omega) ((HYO.out.1).kept K4.out))
            have o1 := B4.out.cell (i := 1) (v := .int .i64 rk) rfl
            have o2 : w4.rangeAt go4 2 (dgl d p cc) := fun j u hu => B4.out.cell (by show (oqc ⟨0, rk, d, p, cc, nn, wy, th⟩)[2 + j]? = _; rw [show oqc ⟨0, rk, d, p, cc, nn, wy, th⟩ = [.int .i64 0, .int .i64 rk] ++ (dgl d p cc ++ [.int .i64 nn, .int .i64 wy, .int .u32 th]) from rfl, List.getElem?_append_right (by simp), show 2 + j - [Value.int .i64 0, Value.int .i64 rk].length = j by simp, List.getElem?_append_left (List.getElem?_eq_some_iff.1 hu).1]; exact hu)
            go_wp2_with (first
              | (refine wpList_load_mid rfl 34 (.tmp 83) rfl go4 2 rfl (dgl d p cc) _ o2 Try.underlying34 rfl infoDg ?_)
              | (go_at_call 7; refine HPU.out.mono ?_; rintro e w5 hp5; have P5 := hx hp5; obtain ⟨rfl, -⟩ := hp5))
            go_meet
            obtain ⟨v2, m2, hm⟩ := md_push (HIV.out.keep K4.out) P5.out
            obtain ⟨_, _, _, _, hkk, _⟩ := P5.out
            exact ⟨v2, m2, [], none, 0, ticks, rfl, rfl, hx (by have := HIV.out.tk; push_cast; omega), hx hm, hx hkk⟩
          · have k0f : (kd == 0) = false := beq_eq_false_iff_ne.2 k0
            by_cases k1 : kd = 1
            · subst k1
              have HNO := hx ((HIV.out.a.sr.kept K4.out).not_own B4.out (by decide) (by decide) (by decide) (by decide))
              have HB4 := hx (fun (W : World) (hk : Kept (own s b q v) w4 W) => (hk.blk B4.out HNO.out).cell (i := 13) (v := .int .i64 nn) rfl)
              have HI4 := hx (HIV.out.keep K4.out)
              have T0 := hx (tks_start w4.heap.size HI4.out (Kept.refl [] w4))
              have o13 := HB4.out w4 (Kept.refl _ _)
              go_wp2_with fail
              clear o13
              go_loopw [13, 8, 11] (fun s13 s8 s11 wq => ∃ (k : Nat) (m2 : Ms) (l : List (Nat × Qd.Dv)) (au : Option Addr) (cu : Nat), s13 = .int .i64 (k : Int) ∧ s8 = .int .i64 (ticks + (k : Int)) ∧ s11 = .slice au l.length cu ∧ Hx (k ≤ 100) ∧ Hx (Tks w w4 wq s b q gn rt burst room0 v m w4.heap.size m2 l (.slice au l.length cu) i k bytes ticks)) (fun s13 _ _ _ => 100 - (intOf s13).toNat)
              case atStart => exact ⟨0, m, [], none, 0, rfl, by simp, rfl, hx (by omega), T0⟩
              case round =>
                clear T0
                obtain ⟨k, m2, l, au, cu, rfl, rfl, rfl, HKL, HTK⟩ := hrel
                obtain ⟨ha, hok, hbud, hrun, hown, hlen, hs, hkk⟩ := HTK.out
                have o13 := HB4.out _ hkk
                by_cases hk1 : (k : Int) < nn
                · have dk1 : decide ((k : Int) < nn) = true := decide_eq_true hk1
                  by_cases hk2 : k < 100
                  · have hk3 : (k : Int) < 100 := by omega
                    have dk2 : decide ((k : Int) < 100) = true := decide_eq_true hk3
                    have HK2 := hx hk2
                    have HROW := hx hown
                    have HLE := hx hlen
                    have HT := hx (tick_m s b q v m2 i (201 * (i : Int) + 2 * (k : Int)) _ ha.sr hok (by omega) (by have := HLT.out; omega))
                    have htk := HIV.out.tk
                    have hi6' : ticks ≤ 6000 := by have := HLT.out; omega
                    have HKK := hx hkk
                    have HOL := hx HI4.out.a.sr.own_lt
                    clear ha hok hbud hrun hown hlen hs hkk hk2
                    go_wp2_with (first
                      | (go_at_call 9; refine HT.out.mono ?_; rintro e w5 ⟨u5, rfl, ho, hr, hk⟩; obtain ⟨a5, c5, h5⟩ := Qd.own_slice ho; subst h5; have O5 := hx ho; have R5 := hx hr; have K5 := hx hk; have HROW5 := hx (Qd.own_kept3 HROW.out (fun g cs hv hg => hk.block g (Array.getElem?_eq_some_iff.1 hg).1 (by have h1 := (HROW.out.lt g hv).1; have h2 := HOL.out s (by simp [own]); have h3 := HOL.out b (by simp [own]); simp; omega))); clear ho hr hk)
                      | (refine out_appN rfl (.tmp 98) (.tmp 100) rfl w4.heap.size (.slice au l.length cu) l rfl HROW5.out _ a5 c5 (tickM m2).2 rfl O5.out (by have h1 := HLE.out; have h2 := HK2.out; have h3 := acc_len m2 2; have h4 : (tickM m2).2.length ≤ 2 := h3; omega) (Nat.le_trans HKK.out.size K5.out.size) ?_; intro v8 w8 ho8 hg8; obtain ⟨a8, c8, h8⟩ := Qd.own_slice ho8; subst h8; have O8 := hx ho8; have G8 := hx hg8; clear ho8 hg8))
                    go_roundw
                    case rel => exact ⟨k + 1, (tickM m2).1, l ++ (tickM m2).2, a8, c8, by push_cast; rfl, by push_cast; rw [Int.add_assoc], by rw [List.length_append], hx (by have := HK2.out; omega), hx (tks_next HI4.out HTK.out R5.out K5.out O8.out HROW5.out G8.out)⟩
                    case measure =>
                      simp only [intOf]
                      have := HK2.out
                      omega
                  · have hk3 : ¬ (k : Int) < 100 := by omega
                    have dk2 : decide ((k : Int) < 100) = false := decide_eq_false hk3
                    clear ha hok hbud hrun hown hlen hs hkk hk2
                    go_wp2_with fail
                    go_meet
                    exact ⟨v, m2, l, au, cu, ticks + (k : Int), rfl, rfl, hx (by have h1 := HIV.out.tk; have h2 := HKL.out; push_cast; omega), hx (tks_end HTK.out HI4.out.a.kept.size HKL.out), hx HTK.out.2.2.2.2.2.2.2⟩
                · have dk1 : decide ((k : Int) < nn) = false := decide_eq_false hk1
                  clear ha hok hbud hrun hown hlen hs hkk
                  go_wp2_with fail
                  go_meet
                  exact ⟨v, m2, l, au, cu, ticks + (k : Int), rfl, rfl, hx (by have h1 := HIV.out.tk; have h2 := HKL.out; push_cast; omega), hx (tks_end HTK.out HI4.out.a.kept.size HKL.out), hx HTK.out.2.2.2.2.2.2.2⟩
            · have k1f : (kd == 1) = false := beq_eq_false_iff_ne.2 k1
              by_cases k2 : kd = 2
              · subst k2
                have HFL := hx (flush_m s b q v m i (201 * (i : Int)) w4 (HIV.out.a.sr.kept K4.out) HIV.out.ok (by have := HLT.out; omega) (by have := HLT.out; omega))
                go_wp2_with (go_at_call 8; refine HFL.out.mono ?_; rintro e w5 ⟨u5, v5, rfl, ho, hr, hk, hv, hok⟩; obtain ⟨au, cu, hu⟩ := Qd.own_slice ho; subst hu; have OU := hx ho; have R5 := hx hr; have K5 := hx hk; have V5 := hx hv; have O5 := hx hok; clear ho hr hk hv hok)
                go_meet
                exact ⟨v5, (flushM m).1, (flushM m).2, au, cu, ticks, rfl, rfl, hx (by have := HIV.out.tk; push_cast; omega), hx (md_flush (HIV.out.keep K4.out) OU.out R5.out K5.out V5.out O5.out), K5⟩
              · have k2f : (kd == 2) = false := beq_eq_false_iff_ne.2 k2
                by_cases k3 : kd = 3
                · subst k3
                  have o14 := B4.out.cell (i := 14) (v := .int .i64 wy) rfl
                  have o15 := B4.out.cell (i := 15) (v := .int .u32 th) rfl
                  have HTH := hx HYO.out.2.2
                  by_cases hw : wy < 0 ∨ 2 ≤ wy
                  · have HHO := hx (heard_out s wy th w4 hw)
                    clear hw
                    go_wp2_with (go_at_call 10; refine HHO.out.mono ?_; rintro e w5 ⟨rfl, rfl⟩)
                    go_meet
                    exact ⟨v, m, [], none, 0, ticks, rfl, rfl, hx (by have := HIV.out.tk; push_cast; omega), hx (md_none (HIV.out.keep K4.out) (HIV.out.a.sr.kept K4.out) (Kept.refl _ _) (.inl rfl) rfl rfl rfl (HIV.out.ok.mono2 (by push_cast; omega) (by push_cast; omega))), hx (Kept.refl _ _)⟩
                  · obtain ⟨j, rfl⟩ : ∃ j : Nat, wy = (j : Int) := ⟨wy.toNat, by omega⟩
                    have HHM := hx (heard_m s b q j th v m i (201 * (i : Int)) w4 (HIV.out.a.sr.kept K4.out) HIV.out.ok (by omega) (by have := HLT.out; omega) (by have := HLT.out; omega) HTH.out)
                    clear hw
                    go_wp2_with (go_at_call 10; refine HHM.out.mono ?_; rintro e w5 ⟨rfl, hr5, hk5⟩; have R5 := hx hr5; have K5 := hx hk5; clear hr5 hk5)
                    go_meet
                    exact ⟨v, _, [], none, 0, ticks, rfl, rfl, hx (by have := HIV.out.tk; push_cast; omega), hx (md_heard (HIV.out.keep K4.out) HTH.out R5.out K5.out), hx (K5.out.mono (cs := own s b q v) (fun x hx => .inl (by simp at hx; simp [own, hx])))⟩
                · have k3f : (kd == 3) = false := beq_eq_false_iff_ne.2 k3
                  go_wp2_with fail
                  go_meet
                  exact ⟨v, m, [], none, 0, ticks, rfl, rfl, hx (by have := HIV.out.tk; push_cast; omega), hx (md_none (HIV.out.keep K4.out) (HIV.out.a.sr.kept K4.out) (Kept.refl _ _) (.inl rfl) rfl rfl rfl (HIV.out.ok.mono2 (by push_cast; omega) (by push_cast; omega))), hx (Kept.refl _ _)⟩
        case rest =>
          obtain ⟨v2, m2, l, au, cu, tk, rfl, rfl, HT, HM, HK5⟩ := hcut
          have BZ4 := hx (K4.out.blk HBZ.out (by simp))
          have BZC := hx (HK5.out.blk BZ4.out ((HIV.out.a.sr.kept K4.out).not_own BZ4.out (by decide) (by decide) (by decide) (by decide)))
          have HTOP := hx (HM.out.top HSZ.out.1.2 HSZ.out.2.1.2 (by have h1 := HT.out; have h2 := HLT.out; omega))
          have RD0 := hx (show RdI wc wc gn (nms m) l (nms m2) 0 (bytes + bytesOf l) bytes from ⟨Kept.refl _ _, HM.out.a.arr, by rw [List.drop_zero]; exact HM.out.run, by rw [List.drop_zero], HIV.out.by0⟩)
          clear B4 K4 o0 HBZ BZ4 HK5
          go_wp2_with fail
          go_loopw [14, 7] (fun s14 s7 wr => ∃ (k : Nat) (n2 : Nat × Nat) (by2 : Int), s14 = .int .i64 (k : Int) ∧ s7 = .int .i64 by2 ∧ Hx (k ≤ l.length) ∧ Hx (RdI wc wr gn n2 l (nms m2) k (bytes + bytesOf l) by2)) (fun s14 _ _ => l.length - (intOf s14).toNat)
          case atStart => exact ⟨0, nms m, bytes, rfl, rfl, hx (Nat.zero_le _), RD0⟩
          case round =>
            clear RD0
            obtain ⟨k, n2, by2, rfl, rfl, HKL, HRD⟩ := hrel
            by_cases hkl : k < l.length
            · have hkI : (k : Int) < (l.length : Int) := by omega
              have HKK := hx hkl
              obtain ⟨⟨yp, x⟩, hy⟩ : ∃ y, l[k]? = some y := ⟨_, List.getElem?_eq_getElem hkl⟩
              have HY := hx hy
              obtain ⟨hp, hpath, hseq, hchk⟩ := HRD.out.one hy
              simp only at hp hpath hseq hchk
              obtain ⟨base, hb, hrow⟩ := HM.out.row
              obtain ⟨go, rfl, hra⟩ := own_outR (Qd.own_kept3 hrow (fun g cs hv hg => HRD.out.kept.block g (Array.getElem?_eq_some_iff.1 hg).1 (by
                have h1 := arr_row HM.out.a.arr hrow
                rw [hv] at h1
                simpa using h1))) hkl hy
              have hgne : go ≠ gn := by
                have h1 := arr_row HM.out.a.arr hrow
                simpa [Value.ownBlock] using h1
              obtain ⟨nx, hnx⟩ : ∃ z, nxt n2 yp = z := ⟨_, rfl⟩
              have hgc := arr_at HRD.out.arr hp
              rw [hnx] at hgc hseq
              have c31 := hra 0 _ rfl
              have hr1 : wr.rangeAt go (k * 12 + 1) (dvl x) := fun j u hu => by
                have h1 := hra (j + 1) u (by simpa [snt] using hu)
                rw [show k * 12 + 1 + j = k * 12 + (j + 1) by omega]
                exact h1
              have hcs := hr1 2 (.int .u32 (nx : Int)) (by rw [← hseq]; rfl)
              have hcp := hr1 3 (.int .i64 (yp : Int)) (by rw [← hpath]; rfl)
              have hbts : Bts wr x.p x.d.data.length x.c x.d.data := by
                have h1 := HM.out.dat (yp, x) (List.mem_of_getElem? hy)
                exact Bts.but h1 HRD.out.kept (arr_dat HM.out.a.arr h1)
              have HC := hx (fun (W : World) (hk : Kept [] wr W) => show Calls Try.prog 11 #[.agg (dvl x).toArray] W (fun e w' => e = .returned (.int .i64 0) ∧ Kept [] W w') from by
                have h := check_any x.d x.p x.d.data.length x.c W (hbts.kept hk)
                rw [hchk] at h
                exact h)
              have HSK := hx (fun (W : World) (hk : Kept [] wr W) => show (fun w3 => w3.cell? ⟨go, k * 12 + 1 + 2, none⟩ = some (.int .u32 (nx : Int)) ∧ w3.cell? ⟨gn, yp, none⟩ = some (.int .u32 (nx : Int)) ∧ w3.cell? ⟨go, k * 12 + 1 + 3, none⟩ = some (.int .i64 (yp : Int)) ∧ w3.rangeAt go (k * 12 + 1) (dvl x)) W from ⟨by rw [hk.cell (block_lt_of_cell hcs) (by simp)]; exact hcs, by rw [hk.cell (block_lt_of_cell hgc) (by simp)]; exact hgc, by rw [hk.cell (block_lt_of_cell hcp) (by simp)]; exact hcp, hk.range hr1 (by simp)⟩)
              have HR1 := hx (fun (W : World) (hk : Kept [gn] wr W) => hk.range hr1 (by simpa using hgne))
              have HZ := hx (fun W => size_any x W (by have := chk_len hchk; omega))
              have htp := HRD.out.top hy
              simp only at htp
              have HTP := hx htp
              have htp2 : 0 ≤ by2 ∧ by2 + (33 + (x.d.data.length : Int)) ≤ 1000000000 := by
                have h1 := HTOP.out
                have h2 := HSZ.out
                omega
              have p0 : decide ((yp : Int) < 0) = false := decide_eq_false (by omega)
              have p1 : decide ((1 : Int) < (yp : Int)) = false := decide_eq_false (by omega)
              have p2 : (yp : Int) < 2 := by omega
              have p3 : (k : Int) ≤ 1000 := by have := HM.out.len; omega
              have HNX := hx hnx
              have HP := hx hp
              have hgf := HRD.out.arr.free
              have HGF := hx hgf
              have c31' : wr.cell? ⟨go, k * 12, none⟩ = some (.int .i64 (yp : Int)) := c31
              clear hy hb hrow hra hgne hnx hgc c31 hr1 hcs hcp hbts hpath hseq hchk htp hp hkl hgf
              go_upto_region 32 with fail
              refine wp_region_held_drew (S := (fun w3 => w3.cell? ⟨go, k * 12 + 1 + 2, none⟩ = some (.int .u32 (nx : Int)) ∧ w3.cell? ⟨gn, yp, none⟩ = some (.int .u32 (nx : Int)) ∧ w3.cell? ⟨go, k * 12 + 1 + 3, none⟩ = some (.int .i64 (yp : Int)) ∧ w3.rangeAt go (k * 12 + 1) (dvl x))) (by kernel_rfl) (HSK.out _ (Kept.drew (Kept.refl [] _))) (fun hHeld => ?_)
              refine take_by 0 127 (v := ?_) rfl rfl (by kernel_rfl) (by kernel_rfl) (by kernel_rfl) (fun _ _ _ h => h) (Or.inl ⟨by rfl, ?_⟩) (by assumption) ?_
              rotate_left
              · (intro w hSw; (try dsimp only at hSw); go_simp; try with_reducible rfl)
              try simp only [List.setIfInBounds_toArray, List.set_cons_zero, List.set_cons_succ]
              refine take_by 1 128 (v := ?_) rfl rfl (by kernel_rfl) (by kernel_rfl) (by kernel_rfl) (fun _ _ _ h => h) (Or.inl ⟨by rfl, ?_⟩) (by assumption) ?_
              rotate_left
              · (intro w hSw; (try dsimp only at hSw); go_simp; try with_reducible rfl)
              try simp only [List.setIfInBounds_toArray, List.set_cons_zero, List.set_cons_succ]
              refine take_by 2 129 (v := ?_) rfl rfl (by kernel_rfl) (by kernel_rfl) (by kernel_rfl) (fun _ _ _ h => h) (Or.inl ⟨by rfl, ?_⟩) (by assumption) ?_
              rotate_left
              · (intro w hSw; (try dsimp only at hSw); go_simp; try with_reducible rfl)
              try simp only [List.setIfInBounds_toArray, List.set_cons_zero, List.set_cons_succ]
              refine take_by 3 130 (v := ?_) rfl rfl (by kernel_rfl) (by kernel_rfl) (by kernel_rfl) (fun _ _ _ h => h) (Or.inl ⟨by rfl, ?_⟩) (by assumption) ?_
              rotate_left
              · (intro w hSw; (try dsimp only at hSw); go_simp; try with_reducible rfl)
              try simp only [List.setIfInBounds_toArray, List.set_cons_zero, List.set_cons_succ]
              refine take_by 4 131 (v := ?_) rfl rfl (by kernel_rfl) (by kernel_rfl) (by kernel_rfl) (fun _ _ _ h => h) (Or.inl ⟨by rfl, ?_⟩) (by assumption) ?_
              rotate_left
              · (intro w hSw; (try dsimp only at hSw); go_simp; try with_reducible rfl)
              try simp only [List.setIfInBounds_toArray, List.set_cons_zero, List.set_cons_succ]
              refine take_by 5 132 (v := ?_) rfl rfl (by kernel_rfl) (by kernel_rfl) (by kernel_rfl) (fun _ _ _ h => h) (Or.inl ⟨by rfl, ?_⟩) (by assumption) ?_
              rotate_left
              · (intro w hSw; (try dsimp only at hSw); go_simp; try with_reducible rfl)
              try simp only [List.setIfInBounds_toArray, List.set_cons_zero, List.set_cons_succ]
              refine take_by 6 133 (v := ?_) rfl rfl (by kernel_rfl) (by kernel_rfl) (by kernel_rfl) (fun _ _ _ h => h) (Or.inl ⟨by rfl, ?_⟩) (by assumption) ?_
              rotate_left
              · (intro w hSw; (try dsimp only at hSw); go_simp; try with_reducible rfl)
              try simp only [List.setIfInBounds_toArray, List.set_cons_zero, List.set_cons_succ]
              refine take_by 7 134 (v := ?_) rfl rfl (by kernel_rfl) (by kernel_rfl) (by kernel_rfl) (fun _ _ _ h => h) (Or.inl ⟨by rfl, ?_⟩) (by assumption) ?_
              rotate_left
              · (intro w hSw; (try dsimp only at hSw); go_simp; try with_reducible rfl)
              try simp only [List.setIfInBounds_toArray, List.set_cons_zero, List.set_cons_succ]
              refine take_by 8 135 (v := ?_) rfl rfl (by kernel_rfl) (by kernel_rfl) (by kernel_rfl) (fun _ _ _ h => h) (Or.inl ⟨by rfl, ?_⟩) (by assumption) ?_
              rotate_left
              · (intro w hSw; (try dsimp only at hSw); go_simp; try with_reducible rfl)
              try simp only [List.setIfInBounds_toArray, List.set_cons_zero, List.set_cons_succ]
              refine take_by 9 136 (v := ?_) rfl rfl (by kernel_rfl) (by kernel_rfl) (by kernel_rfl) (fun _ _ _ h => h) (Or.inl ⟨by rfl, ?_⟩) (by assumption) ?_
              rotate_left
              · (intro w hSw; (try dsimp only at hSw); go_simp; try with_reducible rfl)
              try simp only [List.setIfInBounds_toArray, List.set_cons_zero, List.set_cons_succ]
              refine take_by 10 137 (v := ?_) rfl rfl (by kernel_rfl) (by kernel_rfl) (by kernel_rfl) (fun _ _ _ h => h) (Or.inl ⟨by rfl, ?_⟩) (by assumption) ?_
              rotate_left
              · (intro w hSw; (try dsimp only at hSw); go_simp; try with_reducible rfl)
              try simp only [List.setIfInBounds_toArray, List.set_cons_zero, List.set_cons_succ]
              refine take_by 11 138 (v := ?_) rfl rfl (by kernel_rfl) (by kernel_rfl) (by kernel_rfl) (fun _ _ _ h => h) (Or.inl ⟨by rfl, ?_⟩) (by assumption) ?_
              rotate_left
              · (intro w hSw; (try dsimp only at hSw); go_simp; try with_reducible rfl)
              try simp only [List.setIfInBounds_toArray, List.set_cons_zero, List.set_cons_succ]
              refine take_by 12 139 (v := ?_) rfl rfl (by kernel_rfl) (by kernel_rfl) (by kernel_rfl) (fun _ _ _ h => h) (Or.inl ⟨by rfl, ?_⟩) (by assumption) ?_
              rotate_left
              · (intro w hSw; (try dsimp only at hSw); go_simp; try with_reducible rfl)
              try simp only [List.setIfInBounds_toArray, List.set_cons_zero, List.set_cons_succ]
              refine take_by 13 140 (v := ?_) rfl rfl (by kernel_rfl) (by kernel_rfl) (by kernel_rfl) (fun _ _ _ h => h) (Or.inl ⟨by rfl, ?_⟩) (by assumption) ?_
              rotate_left
              · (intro w hSw; (try dsimp only at hSw); go_simp; try with_reducible rfl)
              try simp only [List.setIfInBounds_toArray, List.set_cons_zero, List.set_cons_succ]
              refine take_by 14 141 (v := ?_) rfl rfl (by kernel_rfl) (by kernel_rfl) (by kernel_rfl) (fun _ _ _ h => h) (Or.inl ⟨by rfl, ?_⟩) (by assumption) ?_
              rotate_left
              · (intro w hSw; (try dsimp only at hSw); go_simp; try with_reducible rfl)
              try simp only [List.setIfInBounds_toArray, List.set_cons_zero, List.set_cons_succ]
              refine take_by 15 142 (v := ?_) rfl rfl (by kernel_rfl) (by kernel_rfl) (by kernel_rfl) (fun _ _ _ h => h) (Or.inl ⟨by rfl, ?_⟩) (by assumption) ?_
              rotate_left
              · (intro w hSw; (try dsimp only at hSw); go_simp; try with_reducible rfl)
              try simp only [List.setIfInBounds_toArray, List.set_cons_zero, List.set_cons_succ]
              refine take_by 16 143 (v := ?_) rfl rfl (by kernel_rfl) (by kernel_rfl) (by kernel_rfl) (fun _ _ _ h => h) (Or.inl ⟨by rfl, ?_⟩) (by assumption) ?_
              rotate_left
              · (intro w hSw; (try dsimp only at hSw); go_simp; try with_reducible rfl)
              try simp only [List.setIfInBounds_toArray, List.set_cons_zero, List.set_cons_succ]
              refine take_by 17 144 (v := ?_) rfl rfl (by kernel_rfl) (by kernel_rfl) (by kernel_rfl) (fun _ _ _ h => h) (Or.inl ⟨by rfl, ?_⟩) (by assumption) ?_
              rotate_left
              · (intro w hSw; (try dsimp only at hSw); go_simp; try with_reducible rfl)
              try simp only [List.setIfInBounds_toArray, List.set_cons_zero, List.set_cons_succ]
              refine take_by 18 145 (v := ?_) rfl rfl (by kernel_rfl) (by kernel_rfl) (by kernel_rfl) (fun _ _ _ h => h) (Or.inl ⟨by rfl, ?_⟩) (by assumption) ?_
              rotate_left
              · (intro w hSw; (try dsimp only at hSw); go_simp; try with_reducible rfl)
              try simp only [List.setIfInBounds_toArray, List.set_cons_zero, List.set_cons_succ]
              refine take_by 19 146 (v := ?_) rfl rfl (by kernel_rfl) (by kernel_rfl) (by kernel_rfl) (fun _ _ _ h => h) (Or.inl ⟨by rfl, ?_⟩) (by assumption) ?_
              rotate_left
              · (intro w hSw; (try dsimp only at hSw); go_simp; try with_reducible rfl)
              try simp only [List.setIfInBounds_toArray, List.set_cons_zero, List.set_cons_succ]
              refine take_by 20 147 (v := ?_) rfl rfl (by kernel_rfl) (by kernel_rfl) (by kernel_rfl) (fun _ _ _ h => h) (Or.inl ⟨by rfl, ?_⟩) (by assumption) ?_
              rotate_left
              · (intro w hSw; (try dsimp only at hSw); go_simp; try with_reducible rfl)
              try simp only [List.setIfInBounds_toArray, List.set_cons_zero, List.set_cons_succ]
              refine take_by 21 148 (v := ?_) rfl rfl (by kernel_rfl) (by kernel_rfl) (by kernel_rfl) (fun _ _ _ h => h) (Or.inl ⟨by rfl, ?_⟩) (by assumption) ?_
              rotate_left
              · (intro w hSw; (try dsimp only at hSw); go_simp; try with_reducible rfl)
              try simp only [List.setIfInBounds_toArray, List.set_cons_zero, List.set_cons_succ]
              refine take_by 22 149 (v := ?_) rfl rfl (by kernel_rfl) (by kernel_rfl) (by kernel_rfl) (fun _ _ _ h => h) (Or.inl ⟨by rfl, ?_⟩) (by assumption) ?_
              rotate_left
              · (intro w hSw; (try dsimp only at hSw); go_simp; try with_reducible rfl)
              try simp only [List.setIfInBounds_toArray, List.set_cons_zero, List.set_cons_succ]
              refine take_by 23 150 (v := ?_) rfl rfl (by kernel_rfl) (by kernel_rfl) (by kernel_rfl) (fun _ _ _ h => h) (Or.inl ⟨by rfl, ?_⟩) (by assumption) ?_
              rotate_left
              · (intro w hSw; (try dsimp only at hSw); go_simp; try with_reducible rfl)
              try simp only [List.setIfInBounds_toArray, List.set_cons_zero, List.set_cons_succ]
              refine take_by 24 151 (v := ?_) rfl rfl (by kernel_rfl) (by kernel_rfl) (by kernel_rfl) (fun _ _ _ h => h) (Or.inl ⟨by rfl, ?_⟩) (by assumption) ?_
              rotate_left
              · (intro w hSw; (try dsimp only at hSw); go_simp; try with_reducible rfl)
              try simp only [List.setIfInBounds_toArray, List.set_cons_zero, List.set_cons_succ]
              refine take_by 25 152 (v := ?_) rfl rfl (by kernel_rfl) (by kernel_rfl) (by kernel_rfl) (fun _ _ _ h => h) (Or.inl ⟨by rfl, ?_⟩) (by assumption) ?_
              rotate_left
              · (intro w hSw; (try dsimp only at hSw); go_simp; try with_reducible rfl)
              try simp only [List.setIfInBounds_toArray, List.set_cons_zero, List.set_cons_succ]
              refine take_by 26 153 (v := ?_) rfl rfl (by kernel_rfl) (by kernel_rfl) (by kernel_rfl) (fun _ _ _ h => h) (Or.inl ⟨by rfl, ?_⟩) (by assumption) ?_
              rotate_left
              · (intro w hSw; (try dsimp only at hSw); go_simp; try with_reducible rfl)
              try simp only [List.setIfInBounds_toArray, List.set_cons_zero, List.set_cons_succ]
              refine take_by 27 154 (v := ?_) rfl rfl (by kernel_rfl) (by kernel_rfl) (by kernel_rfl) (fun _ _ _ h => h) (Or.inl ⟨by rfl, ?_⟩) (by assumption) ?_
              rotate_left
              · (intro w hSw; (try dsimp only at hSw); go_simp; try with_reducible rfl)
              try simp only [List.setIfInBounds_toArray, List.set_cons_zero, List.set_cons_succ]
              refine take_by 28 155 (v := ?_) rfl rfl (by kernel_rfl) (by kernel_rfl) (by kernel_rfl) (fun _ _ _ h => h) (Or.inl ⟨by rfl, ?_⟩) (by assumption) ?_
              rotate_left
              · (intro w hSw; (try dsimp only at hSw); go_simp; try with_reducible rfl)
              try simp only [List.setIfInBounds_toArray, List.set_cons_zero, List.set_cons_succ]
              refine take_by 29 156 (v := ?_) rfl rfl (by kernel_rfl) (by kernel_rfl) (by kernel_rfl) (fun _ _ _ h => h) (Or.inl ⟨by rfl, ?_⟩) (by assumption) ?_
              rotate_left
              · (intro w hSw; (try dsimp only at hSw); go_simp; try with_reducible rfl)
              try simp only [List.setIfInBounds_toArray, List.set_cons_zero, List.set_cons_succ]
              refine take_by 30 157 (v := ?_) rfl rfl (by kernel_rfl) (by kernel_rfl) (by kernel_rfl) (fun _ _ _ h => h) (Or.inl ⟨by rfl, ?_⟩) (by assumption) ?_
              rotate_left
              · (intro w hSw; (try dsimp only at hSw); go_simp; try with_reducible rfl)
              try simp only [List.setIfInBounds_toArray, List.set_cons_zero, List.set_cons_succ]
              refine take_by 31 158 (v := ?_) rfl rfl (by kernel_rfl) (by kernel_rfl) (by kernel_rfl) (fun _ _ _ h => h) (Or.inl ⟨by rfl, ?_⟩) (by assumption) ?_
              rotate_left
              · (intro w hSw; (try dsimp only at hSw); go_simp; try with_reducible rfl)
              try simp only [List.setIfInBounds_toArray, List.set_cons_zero, List.set_cons_succ]
              refine take_by 32 159 (v := ?_) rfl rfl (by kernel_rfl) (by kernel_rfl) (by kernel_rfl) (fun _ _ _ h => h) (Or.inl ⟨by rfl, ?_⟩) (by assumption) ?_
              rotate_left
              · (intro w hSw; (try dsimp only at hSw); go_simp; try with_reducible rfl)
              try simp only [List.setIfInBounds_toArray, List.set_cons_zero, List.set_cons_succ]
              refine take_by 33 160 (v := .agg (dvl x).toArray) rfl rfl (by kernel_rfl) (by kernel_rfl) (by kernel_rfl) (fun _ _ _ h => h) (yieldsIf_load_mid (by rfl) 34 (.tmp 159) rfl go (k * 12 + 1) rfl (dvl x) _ (fun _ hS => hS.2.2.2) Try.underlying34 rfl (by kernel_rfl)) (by assumption) ?_
              try simp only [List.setIfInBounds_toArray, List.set_cons_zero, List.set_cons_succ]
              refine wpAnyH_ready (rs := [34]) (by kernel_rfl) (by simp) ?_
              refine AllReadyH.cons rfl (fun K hK => ?_) AllReadyH.nil
              go_simp
              (go_at_call 11; refine (HC.out _ (Kept.drew (Kept.refl [] _))).mono ?_; rintro e w4 ⟨rfl, hk4⟩; have K4 := hx (show Kept [] wr w4 from (Kept.drew (Kept.refl [] _)).trans0 hk4); clear hk4)
              refine hK.out _ _ (HSK.out _ K4.out) (fun hHeld => ?_)
              clear hK K
              try simp only [Act.put, List.setIfInBounds_toArray, List.set_cons_zero, List.set_cons_succ]
              refine take_by 35 162 (v := ?_) rfl rfl (by kernel_rfl) (by kernel_rfl) (by kernel_rfl) (fun _ _ _ h => h) (Or.inl ⟨by rfl, ?_⟩) (by assumption) ?_
              rotate_left
              · (intro w hSw; (try dsimp only at hSw); go_simp; try with_reducible rfl)
              try simp only [List.setIfInBounds_toArray, List.set_cons_zero, List.set_cons_succ]
              refine take_by 36 163 (v := ?_) rfl rfl (by kernel_rfl) (by kernel_rfl) (by kernel_rfl) (fun _ _ _ h => h) (Or.inl ⟨by rfl, ?_⟩) (by assumption) ?_
              rotate_left
              · (intro w hSw; (try dsimp only at hSw); go_simp; try with_reducible rfl)
              try simp only [List.setIfInBounds_toArray, List.set_cons_zero, List.set_cons_succ]
              refine wpAnyH_done (by kernel_rfl) ?_ _
              have hgc4 := hHeld.2.1
              have hgf4 : w4.frozen? ⟨gn, yp, none⟩ = false := by rw [K4.out.frozen (by have := HRD.out.arr.lt; exact this) (by simp)]; exact HGF.out yp
              clear hHeld c31' p0 p1 HC HSK
              go_upto_region 35 with fail
              generalize hw5 : World.setCell w4 _ _ = w5
              have HW5 := hx (show w5 = w4.setCell ⟨gn, yp, none⟩ (.int .u32 ((nextU (nxt n2 yp) : Nat) : Int)) from by
                rw [← hw5, HNX.out]
                refine congrArg (fun z => World.setCell w4 ⟨gn, yp, none⟩ (.int .u32 z)) ?_
                unfold nextU
                first | rfl | (push_cast; rfl) | (push_cast; omega) | (rw [IntKind.wrap_u32]; push_cast; omega))
              have KG := hx (show Kept [gn] wr w5 by rw [← hw5]; exact (K4.out.mono (by simp)).setCell (.inl (by simp)) _)
              clear hw5 hgc4 hgf4
              have hr5 := HR1.out _ KG.out
              go_wp2_with (first
                | (refine wpList_load_mid rfl 34 (.tmp 173) rfl go (k * 12 + 1) rfl (dvl x) _ hr5 Try.underlying34 rfl infoDg ?_)
                | (go_at_call 12; refine (HZ.out _).mono ?_; rintro e w6 ⟨rfl, hk6⟩; have K6 := hx hk6; clear hk6))
              go_roundw
              case rel => exact ⟨k + 1, bump n2 yp, by2 + (33 + (x.d.data.length : Int)), by push_cast; rfl, rfl, hx HKK.out, hx (HRD.out.step HY.out K4.out HW5.out K6.out)⟩
              case measure =>
                simp only [intOf]
                have := HKK.out
                omega
            · obtain rfl : k = l.length := by have := HKL.out; omega
              have HB2 := hx (HRD.out.last)
              have RQ := hx (bd_next HM.out HRD.out HT.out)
              have hbb : by2 ≤ burst + (rt : Int) * tk := by rw [HB2.out]; exact HTOP.out.2.2
              have hrt := HTOP.out
              have hsz := HSZ.out
              have hbl : -1000000000 ≤ by2 := by have := HRD.out.by0; omega
              have BZQ := (HRD.out.kept.blk BZC.out (by
                have h1 := blk_ne BZC.out HM.out.a.arr (by decide)
                simpa using h1))
              have c0 := BZQ.cell (i := 0) rfl
              have c1 := BZQ.cell (i := 1) rfl
              have c2 := BZQ.cell (i := 2) rfl
              have HBQ := hx BZQ
              have HWT := hx (fun m => show Calls Try.prog 13 #[.pointer (some ⟨s, 0, none⟩)] (World.drewN _ m) fun e w' => e = .returned (.int .i64 (m2.s.length : Int)) ∧ w' = World.drewN _ m from (waiting_m s b q v2 m2 (World.drewN _ m) (RQ.out.a.sr.kept ((Kept.refl [] _).drewN m))).mono fun e w' ⟨h2, h3⟩ => ⟨h2, h3.symm⟩)
              have q0 : decide (burst + (rt : Int) * tk < by2) = false := decide_eq_false (by omega)
              have q1 : decide (room0 < (m2.s.length : Int)) = false := decide_eq_false (by have := HM.out.room; omega)
              obtain ⟨ln, hln⟩ : ∃ z, (m2.s.length : Int) = z := ⟨_, rfl⟩
              rw [hln] at q1 HWT
              clear BZQ hkl hln
              go_upto_region 36 with fail
              go_quiet (first | (go_at_call 13; refine Calls.quiet_of_same (HWT.out _)))
              have RK := hx (RQ.out.keep ((Kept.refl [] _).drewN nq))
              have BK := hx (((Kept.refl [] _).drewN nq).blk HBQ.out (by simp))
              go_wp2_with fail
              go_roundw
              case rel => exact ⟨i + 1, by2, tk, m2, v2, rfl, rfl, by push_cast; rfl, hx (by have := HLT.out; omega), RK, BK⟩
              case measure =>
                simp only [intOf]
                have := HLT.out
                omega
      · have hl6' : ¬ (i : Int) < 60 := by omega
        have di6 : decide ((i : Int) < 60) = false := decide_eq_false hl6'
        clear hl6
        go_wp2_with fail
        go_ret
        exact ⟨rfl, HIV.out.a.kept⟩
    · have hil : ¬ (i : Int) < (n : Int) := by omega
      have dil : decide ((i : Int) < (n : Int)) = false := decide_eq_false hil
      clear hlt
      go_wp2_with fail
      go_ret
      exact ⟨rfl, HIV.out.a.kept⟩
theorem bounds_law (rate burst room0 : Int) (a : Option Addr) (c : Nat) (xs : List Oq) (w : World) (hr : OqR w a xs) :
    Calls Try.prog 4 #[.agg #[.int .i64 rate, .int .i64 burst, .int .i64 room0], .slice a xs.length c] w fun e w' => e = .returned (.bool true) ∧ Kept [] w w' := by
  by_cases h : rate < 1 ∨ 100000 < rate ∨ burst < 1 ∨ 100000 < burst ∨ room0 < 1 ∨ 256 < room0
  · exact bounds_bad rate burst room0 a c xs.length w h
  · obtain ⟨rt, rfl⟩ : ∃ rt : Nat, rate = (rt : Int) := ⟨rate.toNat, by omega⟩
    exact bounds_good rt burst room0 a c xs w hr (by omega) (by omega) (by omega)
end Go.Proofs.Ytgdofgckjkmhjaa.Mp
