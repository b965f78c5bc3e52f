/- MpathPlays: where the law stands, in plain terms. The program's sender: what it tells; Trip. -/
import Derived.Test.YtgdofgckjkmhjaaGreatPk11
import Derived.Test.YtgdofgckjkmhjaaGreatPk13
import Derived.Test.YtgdofgckjkmhjaaGreatPk16
import Derived.Test.YtgdofgckjkmhjaaGreatRfF
set_option linter.unusedSimpArgs false
set_option linter.unusedVariables false
namespace Go.Proofs.YtgdofgckjkmhjaaGreat.Mp
open Go Go.RowKit
/-- What goes at both is alike, data and all. -/
theorem LkP.at : ∀ {s r : List (Nat × Qd.Dv)}, LkP s r → ∀ (i : Nat) y z, s[i]? = some y → r[i]? = some z → y.1 = z.1 ∧ y.2.d = z.2.d
  | [], _, _, i, y, _, h, _ => by simp at h
  | _ :: _, [], h, _, _, _, _, _ => h.elim
  | a :: s, b :: r, h, 0, y, z, h1, h2 => by
    simp only [List.getElem?_cons_zero, Option.some.injEq] at h1 h2
    subst h1 h2
    exact h.1
  | a :: s, b :: r, h, i + 1, y, z, h1, h2 => LkP.at (s := s) (r := r) h.2 i y z (by simpa using h1) (by simpa using h2)
theorem LkP.refl : ∀ l : List (Nat × Qd.Dv), LkP l l
  | [] => trivial
  | _ :: l => ⟨⟨rfl, rfl⟩, LkP.refl l⟩
theorem Run.path {s : List Qd.It} : ∀ {l : List (Nat × Qd.Dv)} {a b : Nat × Nat}, Run s a l b → ∀ y, y ∈ l → y.2.d.path = (y.1 : Int)
  | [], _, _, _, y, hy => by simp at hy
  | z :: l, a, b, h, y, hy => by
    rcases List.mem_cons.1 hy with rfl | hy
    · exact h.1.2.1
    · exact Run.path h.2 y hy
theorem LkP.lko {w : World} {l l2 : List (Nat × Qd.Dv)} {s r : List Qd.It} {a b c d : Nat × Nat} (h : LkP l l2) (h1 : Run s a l b) (h2 : Run r c l2 d)
    (g1 : ∀ it, it ∈ s → Bts w it.v.p it.v.d.data.length it.v.c it.v.d.data) (g2 : ∀ it, it ∈ r → Bts w it.v.p it.v.d.data.length it.v.c it.v.d.data) : LkO w l (l2.map Prod.snd) := by
  refine ⟨by rw [List.length_map]; exact h.len, fun i y z hy hz => ?_⟩
  rw [List.getElem?_map] at hz
  obtain ⟨z2, hz2, rfl⟩ := Option.map_eq_some_iff.1 hz
  obtain ⟨e1, e2⟩ := h.at i y z2 hy hz2
  have h3 := Run.path h1 y (List.mem_of_getElem? hy)
  refine ⟨e2, ?_, Run.dat g1 h1 y (List.mem_of_getElem? hy), Run.dat g2 h2 z2 (List.mem_of_getElem? hz2)⟩
  rw [← e2]
  exact h3
theorem LkO.kept {w w' : World} {l : List (Nat × Qd.Dv)} {l2 : List Qd.Dv} (h : LkO w l l2) (hk : Kept [] w w') : LkO w' l l2 :=
  ⟨h.len, fun i y z hy hz => by
    obtain ⟨h1, h2, h3, h4⟩ := h.at_ i y z hy hz
    exact ⟨h1, h2, h3.kept hk, h4.kept hk⟩⟩
/-- A list that is like one: its items. -/
theorem LkL.mem : ∀ {s r : List Qd.It}, LkL s r → ∀ y, y ∈ r → ∃ x, x ∈ s ∧ x.v.d = y.v.d
  | [], [], _, y, hy => by simp at hy
  | a :: s, b :: r, h, y, hy => by
    rcases List.mem_cons.1 hy with rfl | hy
    · exact ⟨a, List.mem_cons_self, h.1.2.2⟩
    · obtain ⟨x, h1, h2⟩ := LkL.mem (s := s) (r := r) h.2 y hy
      exact ⟨x, .tail _ h1, h2⟩
  | [], _ :: _, h, _, _ => h.elim
  | _ :: _, [], h, _, _ => h.elim
theorem Ok.wS {m : Ms} {k t : Int} {sd : List Qd.It} (o : Ok m k t) (h : LkL m.s sd) : Ok (m.wS sd) k t :=
  ⟨o.p0, o.p1, o.rt, o.burst, o.held, o.spent, o.full, o.room, o.turns, by show (sd.length : Int) ≤ m.room; rw [← h.len]; exact o.len, o.sess, o.now, o.drop, o.hold, fun x hx => by
    obtain ⟨y, h1, h2⟩ := h.mem x hx
    rw [← h2]
    exact o.its y h1⟩
/-- What is left of a list is of it. -/
theorem flushL_sub : ∀ (s : List Qd.It) (m : Ms), m.s = s → ∀ x, x ∈ (flushL s m).1.s → x ∈ s
  | [], m, hs, x, hx => by rw [← hs]; exact hx
  | it :: r, m, hs, x, hx => by
    rw [flushL] at hx
    split at hx
    · exact .tail _ (flushL_sub r (goF m it r).1 (by unfold goF; rw [stA_s]) x hx)
    · rw [← hs]; exact hx
theorem flL_len : ∀ (s : List Qd.It) (m : Ms), (flushL s m).2.length ≤ 2 * s.length
  | [], m => by simp [flushL]
  | it :: r, m => by
    rw [flushL]
    split
    · have h1 := flL_len r (goF m it r).1
      have h2 : (goF m it r).2.length ≤ 2 := by
        unfold goF
        rw [stA_len]
        have h := choM_len m it.rank
        have h3 := (fitW_len (sizeI it.v) m.held (choM m it.rank) h.1 h.2).1
        unfold waysF
        omega
      simp only [List.length_append, List.length_cons]
      omega
    · simp
theorem fl_len (m : Ms) : (flushM m).2.length ≤ 2 * m.s.length := flL_len m.s m
/-- What is spent and held together. -/
theorem flush_sp : ∀ (s : List Qd.It) (m : Ms) (B : Int), B ≤ 100000000000000 → 0 ≤ m.spent → m.spent + m.held ≤ B → 0 ≤ m.held → 0 ≤ (flushL s m).1.spent ∧ (flushL s m).1.spent + (flushL s m).1.held ≤ B
  | [], m, B, _, h0, h1, _ => ⟨h0, h1⟩
  | it :: r, m, B, hB, h0, h1, h2 => by
    have hn : 0 ≤ sizeI it.v * ((waysF m it).length : Int) := Int.mul_nonneg (by unfold sizeI; omega) (by omega)
    have e := stA_sp { takeM m (sizeI it.v * ((waysF m it).length : Int)) with s := r } it.v (waysF m it) (waysF m it).length
    have e1 : (goF m it r).1.spent = Mp.hold (m.spent + sizeI it.v * ((waysF m it).length : Int)) := e.1
    have e2 : (goF m it r).1.held = m.held - sizeI it.v * ((waysF m it).length : Int) := e.2
    rw [flushL]
    split
    · rename_i hgo
      rw [hold_id (by omega) (by omega)] at e1
      exact flush_sp r (goF m it r).1 B hB (by omega) (by omega) (by omega)
    · exact ⟨h0, h1⟩
theorem tick1_sp (m : Ms) (i : Nat) (B : Int) (hB : B ≤ 100000000000000) (h0 : 0 ≤ m.spent) (h1 : m.spent + m.held ≤ B) : 0 ≤ (tick1 m i).1.spent ∧ (tick1 m i).1.spent + (tick1 m i).1.held ≤ B := by
  have e := setW_same m i (tickP (m.way i)).1
  unfold tick1
  split
  · rename_i hc
    have g := setW_same (takeM (m.setW i (tickP (m.way i)).1) 33) i { (takeM (m.setW i (tickP (m.way i)).1) 33).way i with next := nextU ((takeM (m.setW i (tickP (m.way i)).1) 33).way i).next }
    have g1 : (stM (takeM (m.setW i (tickP (m.way i)).1) 33) i).spent = Mp.hold ((m.setW i (tickP (m.way i)).1).spent + 33) := g.2.2.2.1
    have g2 : (stM (takeM (m.setW i (tickP (m.way i)).1) 33) i).held = (m.setW i (tickP (m.way i)).1).held - 33 := g.2.2.1
    rw [e.2.2.2.1, hold_id (by omega) (by omega)] at g1
    rw [e.2.2.1] at g2
    simp only
    omega
  · simp only
    rw [e.2.2.1, e.2.2.2.1]
    exact ⟨h0, h1⟩
theorem tick_sp (m : Ms) (B : Int) (hB : B + (m.rt : Int) ≤ 100000000000000) (h0 : 0 ≤ m.spent) (h1 : m.spent + m.held ≤ B) : 0 ≤ (tickM m).1.spent ∧ (tickM m).1.spent + (tickM m).1.held ≤ B + (m.rt : Int) := by
  have h3 : heldT m.rt m.burst m.held ≤ m.held + (m.rt : Int) := by unfold heldT; omega
  have a := tick1_sp (tick0 m) 0 (B + (m.rt : Int)) hB h0 (by show m.spent + heldT m.rt m.burst m.held ≤ _; omega)
  exact tick1_sp (tick1 (tick0 m) 0).1 1 (B + (m.rt : Int)) hB a.1 a.2
theorem tick_s (m : Ms) : (tickM m).1.s = m.s := by
  have h : ∀ (m : Ms) (i : Nat), (tick1 m i).1.s = m.s := fun m i => by
    unfold tick1
    split
    · exact (setW_same _ _ _).2.2.2.2.2.2.2.trans (setW_same m i (tickP (m.way i)).1).2.2.2.2.2.2.2
    · exact (setW_same _ _ _).2.2.2.2.2.2.2
  show (tick1 (tick1 (tick0 m) 0).1 1).1.s = m.s
  rw [h, h]
  rfl
theorem Sr.not_own {w : World} {s b q z : Nat} {v : Value} {m : Ms} {ys : List Value} {T : TypeId} (r : Sr w s b q v m) (hz : Blk w z ys T) (h1 : T ≠ 74) (h2 : T ≠ 105) (h3 : T ≠ 108) (h4 : T ≠ 110) : z ∉ own s b q v := by
  obtain ⟨h, hq, _⟩ := r.hq
  intro hg
  simp only [own, List.mem_cons, Option.mem_toList] at hg
  rcases hg with rfl | rfl | rfl | hg
  · exact blk_ne hz r.hs h1 rfl
  · exact blk_ne hz r.hb h2 rfl
  · exact blk_ne hz hq.hq h3 rfl
  · exact own_ne hq.own hz h4 hg
theorem RL.but {w w' : World} {s b q : Nat} {v : Value} {m : Ms} {a : Option Addr} {c : Nat} {l : List Qd.It} (h : RL w a c l) (r : Sr w s b q v m) (hk : Kept (Mp.own s b q v) w w') : RL w' a c l :=
  ⟨fun i y hy => by
    obtain ⟨g, o, xs, h1, h2, h3⟩ := h.at_ i y hy
    exact ⟨g, o, xs, h1, hk.blk h2 (r.not_own h2 (by decide) (by decide) (by decide) (by decide)), h3⟩, h.le, h.top, h.nil⟩
/-- Where the law stands: the program's sender, and the document's, which is like it. -/
structure PlI (w wr : World) (s b q : Nat) (v : Value) (m : Ms) (a : Option Addr) (c : Nat) (sd : List Qd.It) (k t B : Int) : Prop where
  sr : Sr wr s b q v m
  kept : Kept [] w wr
  own : ∀ g, g ∈ Mp.own s b q v → w.heap.size ≤ g
  rl : RL wr a c sd
  lk : LkL m.s sd
  dat : RD w sd
  ok : Ok m k t
  sp : 0 ≤ m.spent ∧ m.spent + m.held ≤ B
theorem PlI.keep {w wr wx : World} {s b q : Nat} {v : Value} {m : Ms} {a : Option Addr} {c : Nat} {sd : List Qd.It} {k t B : Int} (h : PlI w wr s b q v m a c sd k t B) (hk : Kept [] wr wx) : PlI w wx s b q v m a c sd k t B :=
  ⟨h.sr.kept hk, h.kept.trans0 hk, h.own, h.rl.kept hk, h.lk, h.dat, h.ok, h.sp⟩
theorem PlI.mono {w wr : World} {s b q : Nat} {v : Value} {m : Ms} {a : Option Addr} {c : Nat} {sd : List Qd.It} {k t B k2 t2 B2 : Int} (h : PlI w wr s b q v m a c sd k t B) (hk : k ≤ k2) (ht : t ≤ t2) (hB : B ≤ B2) : PlI w wr s b q v m a c sd k2 t2 B2 :=
  ⟨h.sr, h.kept, h.own, h.rl, h.lk, h.dat, h.ok.mono2 hk ht, h.sp.1, Int.le_trans h.sp.2 hB⟩
/-- The program's call at an open world: its own blocks change; the document's answer stands in its box. -/
theorem PlI.next {w wr wx wy : World} {s b q : Nat} {v v2 : Value} {m m2 : Ms} {a a2 : Option Addr} {c c2 : Nat} {sd sd2 : List Qd.It} {k t B k2 t2 B2 : Int} (h : PlI w wr s b q v m a c sd k t B) (h1 : Kept [] wr wx) (hk : Kept (Mp.own s b q v) wx wy) (r : Sr wy s b q v2 m2)
    (hv : ∀ g, v2.ownBlock = some g → v.ownBlock = some g ∨ wx.heap.size ≤ g) (rl : RL wy a2 c2 sd2) (lk : LkL m2.s sd2) (dat : RD w sd2) (ok : Ok m2 k2 t2) (sp : 0 ≤ m2.spent ∧ m2.spent + m2.held ≤ B2) : PlI w wy s b q v2 m2 a2 c2 sd2 k2 t2 B2 :=
  ⟨r, (h.kept.trans0 h1).trans hk (fun _ h => h) (fun g hg => .inr (h.own g hg)), fun g hg => by
    have hz := (h.kept.trans0 h1).size
    simp only [Mp.own, List.mem_cons, Option.mem_toList] at hg
    rcases hg with e | e | e | e
    · exact h.own g (by simp [Mp.own, e])
    · exact h.own g (by simp [Mp.own, e])
    · exact h.own g (by simp [Mp.own, e])
    · rcases hv g e with h2 | h2
      · exact h.own g (by simp [Mp.own, h2])
      · omega, rl, lk, dat, ok, sp⟩
theorem vo_of {v v2 : Value} {n : Nat} (h : v2.ownBlock = v.ownBlock ∨ ∃ g, v2.ownBlock = some g ∧ n ≤ g) : ∀ g, v2.ownBlock = some g → v.ownBlock = some g ∨ n ≤ g := by
  intro g hg
  rcases h with h | ⟨g2, h, hn⟩
  · exact .inl (h ▸ hg)
  · rw [h] at hg
    simp only [Option.some.injEq] at hg
    subst hg
    exact .inr hn
theorem Ok.forg {m : Ms} {k t : Int} (o : Ok m k t) (kind : Int) : Ok (m.wS (forgS kind m.s)) k t :=
  ⟨o.p0, o.p1, o.rt, o.burst, o.held, o.spent, o.full, o.room, o.turns, by
    have h1 := o.len
    have h2 := List.length_filter_le (keepK kind) m.s
    show ((forgS kind m.s).length : Int) ≤ m.room
    unfold forgS
    omega, o.sess, o.now, o.drop, o.hold, fun x hx => o.its x (forg_mem hx)⟩
theorem rpc_u8 (p : Pa) : ∀ u ∈ rpc p, ∀ x, u ≠ .int .u8 x := by
  intro u hu x
  simp only [rpc, tl4, stc, rsc, mkc, tab, List.mem_append, List.mem_cons, List.not_mem_nil, or_false, List.mem_map] at hu
  rcases hu with (hu | hu) | rfl | rfl | rfl | rfl
  · rcases hu with rfl | rfl | rfl | rfl | rfl <;> simp
  · rcases hu with (hu | ⟨_, _, rfl⟩) | hu
    · rcases hu with rfl | rfl <;> simp
    · simp
    · rcases hu with rfl | rfl | rfl <;> simp
  all_goals simp
theorem rsd_u8 (m : Ms) (a : Option Addr) (c : Nat) : ∀ u ∈ rsd m a c, ∀ x, u ≠ .int .u8 x := by
  intro u hu x
  simp only [rsd, rhd, rtl, List.mem_append, List.mem_cons, List.not_mem_nil, or_false] at hu
  rcases hu with (h | h) | rfl | rfl | rfl | rfl | rfl | rfl | rfl | rfl | rfl | rfl | rfl
  · exact rpc_u8 _ u h x
  · exact rpc_u8 _ u h x
  all_goals simp
/-- A sender's box is none of the data's. -/
theorem rsd_dat {w : World} {z : Nat} {m : Ms} {a : Option Addr} {c : Nat} {T : TypeId} (h : Blk w z (rsd m a c) T) {a2 : Option Addr} {k c2 : Nat} {d : List UInt8} (hb : Bts w a2 k c2 d) : ∀ g o, a2 = some (⟨g, o, none⟩ : Addr) → d ≠ [] → g ∉ [z] := by
  intro g o ha hd hg
  simp only [List.mem_cons, List.not_mem_nil, or_false] at hg
  subst hg
  obtain ⟨g2, o2, h1, h2⟩ := hb.hcell 0 (by cases d with | nil => exact absurd rfl hd | cons _ _ => simp)
  rw [ha] at h1
  simp only [Option.some.injEq, Addr.mk.injEq, and_true] at h1
  obtain ⟨rfl, rfl⟩ := h1
  unfold Blk at h
  unfold World.cell? at h2
  rw [h] at h2
  simp only [Nat.add_zero] at h2
  have h3 : (rsd m a c)[o]? = some (.int .u8 ((d[0]'(by cases d with | nil => exact absurd rfl hd | cons _ _ => simp)).toNat : Int)) := by simpa using h2
  exact rsd_u8 m a c _ (List.mem_of_getElem? h3) _ rfl
/-- A box of the call's is written. -/
theorem PlI.box {w wr wx : World} {s b q : Nat} {v : Value} {m M : Ms} {a a2 : Option Addr} {c c2 z : Nat} {sd : List Qd.It} {k t B : Int} (h : PlI w wr s b q v m a c sd k t B) (hb : Blk wr z (rsd M a2 c2) 40) (hk : Kept [z] wr wx) (hz : w.heap.size ≤ z) : PlI w wx s b q v m a c sd k t B :=
  ⟨h.sr.but hk (fun g hg => by simp only [List.mem_cons, List.not_mem_nil, or_false] at hg; subst hg; exact h.sr.not_own hb (by decide) (by decide) (by decide) (by decide)) (fun x hx => rsd_dat hb (h.sr.dat x hx).bts),
   h.kept.trans hk (fun _ h => h) (fun g hg => by simp only [List.mem_cons, List.not_mem_nil, or_false] at hg; subst hg; exact .inr hz), h.own,
   ⟨fun i y hy => by
    obtain ⟨g, o, xs, h1, h2, h3⟩ := h.rl.at_ i y hy
    exact ⟨g, o, xs, h1, hk.blk h2 (by simpa using blk_ne h2 hb (by decide)), h3⟩, h.rl.le, h.rl.top, h.rl.nil⟩, h.lk, h.dat, h.ok, h.sp⟩
/-- A push at both. -/
theorem pl_push {w wr wx wy : World} {s b q : Nat} {v : Value} {m m1 : Ms} {a a1 p : Option Addr} {c c1 cc : Nat} {sd : List Qd.It} {k t B rk : Int} {d : Dg} {e : Ending} (h : PlI w wr s b q v m a c sd k t B) (h1 : Kept [] wr wx) (hd : Bts w p d.data.length cc d.data) (hr : RL wx a1 c1 m1.s)
    (hm : m1 = if chk (pushD m d) = 0 then pushR (m.wS sd) rk ⟨pushD m d, p, cc⟩ else m.wS sd) (hp : PushQ wx s b q v m rk d e wy) :
    ∃ v2 m2 sd2, m1 = m2.wS sd2 ∧ PlI w wy s b q v2 m2 a1 c1 sd2 (k + 1) t B := by
  obtain ⟨_, v2, m2, r2, hk, hv, hm2⟩ := hp
  have rl := hr.but (h.sr.kept h1) hk
  by_cases hc : chk (pushD m d) = 0
  · rw [if_pos hc] at hm hm2
    obtain ⟨x, hx, rfl⟩ := hm2
    obtain ⟨r1, e1, e2⟩ := push_like (rank := rk) (y := ⟨pushD m d, p, cc⟩) h.lk hx
    refine ⟨v2, pushR m rk x, r1, by rw [hm, e1], h.next h1 hk r2 (vo_of hv) (by rw [hm, e1] at rl; exact rl) e2 (fun y hy => ?_) (push_ok h.ok hc hx) h.sp⟩
    have e3 : (pushR (m.wS sd) rk ⟨pushD m d, p, cc⟩).s = r1 := by rw [e1]; rfl
    rw [← e3] at hy
    rcases pushS_mem hy with rfl | hy
    · exact hd
    · exact h.dat y hy
  · rw [if_neg hc] at hm hm2
    obtain ⟨rfl, rfl⟩ := hm2
    refine ⟨v2, m2, sd, hm, h.next h1 hk r2 (vo_of hv) (by rw [hm] at rl; exact rl) h.lk h.dat (h.ok.mono2 (by omega) (Int.le_refl _)) h.sp⟩
/-- What goes by a flush: alike. -/
theorem pl_flush {w wr wx wy : World} {s b q : Nat} {v v2 : Value} {m : Ms} {a a1 : Option Addr} {c c1 : Nat} {sd : List Qd.It} {k t B : Int} (h : PlI w wr s b q v m a c sd k t B) (hB : B ≤ 100000000000000) (h1 : Kept [] wr wx) (hr : RL wx a1 c1 (flushM (m.wS sd)).1.s)
    (r2 : Sr wy s b q v2 (flushM m).1) (hk : Kept (Mp.own s b q v) wx wy) (hv : v2.ownBlock = v.ownBlock) (ok : Ok (flushM m).1 k (t + 1)) :
    ∃ sd2, (flushM (m.wS sd)).1 = ((flushM m).1).wS sd2 ∧ PlI w wy s b q v2 (flushM m).1 a1 c1 sd2 k (t + 1) B ∧ LkO wy (flushM m).2 ((flushM (m.wS sd)).2.map Prod.snd) ∧ (flushM m).2.length ≤ 1000 := by
  obtain ⟨r1, e1, e2, e3⟩ := flush_like (s := m.s) (r := sd) (m := m) (r0 := sd) h.lk h.lk
  have rl := hr.but (h.sr.kept h1) hk
  have e4 : (flushM (m.wS sd)).1 = (flushM m).1.wS r1 := e1
  rw [e4] at rl
  have hcs : ∀ x, x ∈ m.s → chk x.v.d = 0 := fun x hx => (h.ok.its x hx).1
  have hcd : ∀ x, x ∈ sd → chk x.v.d = 0 := fun x hx => ((h.ok.wS h.lk).its x hx).1
  have g1 := (flush_run m.s m rfl hcs).1
  have g2 := (flush_run sd (m.wS sd) rfl hcd).1
  have hkk := h.kept.trans0 h1
  refine ⟨r1, e4, h.next h1 hk r2 (vo_of (.inl hv)) rl e2 (fun y hy => ?_) ok (flush_sp m.s m B hB h.sp.1 h.sp.2 h.ok.held.1), LkP.lko (l := (flushM m).2) (l2 := (flushM (m.wS sd)).2) e3 g1 g2 (fun it hi => ?_) (fun it hi => ?_), ?_⟩
  · have e5 : (flushL sd (m.wS sd)).1.s = r1 := by
      rw [show flushL sd (m.wS sd) = flushM (m.wS sd) from rfl, e4]; rfl
    rw [← e5] at hy
    exact h.dat y (flushL_sub sd (m.wS sd) rfl y hy)
  · have hb := ((h.sr.kept h1).dat it hi)
    exact Bts.but hb.bts hk hb.ne
  · exact Bts.but ((h.dat it hi).kept hkk) hk (fun g o hp hd hg => by
      have h5 := h.own g hg
      obtain ⟨g2, o2, h6, h7⟩ := (h.dat it hi).hcell 0 (by cases hq : it.v.d.data with | nil => exact absurd hq hd | cons _ _ => simp)
      rw [hp] at h6
      simp only [Option.some.injEq, Addr.mk.injEq, and_true] at h6
      obtain ⟨rfl, rfl⟩ := h6
      have h8 : g < w.heap.size := block_lt_of_cell h7
      omega)
  · have h6 := fl_len m
    have h7 := h.ok.len
    have h8 := h.ok.room
    omega
/-- A tick at both. -/
theorem pl_tick {w wr wx wy : World} {s b q : Nat} {v : Value} {m : Ms} {a : Option Addr} {c : Nat} {sd : List Qd.It} {k t B : Int} (h : PlI w wr s b q v m a c sd k t B) (ht : 0 ≤ t) (hB : B ≤ 10000000000000) (h1 : Kept [] wr wx)
    (r2 : Sr wy s b q v (tickM m).1) (hk : Kept [s, b] wx wy) (rl : RL wy a c sd) :
    PlI w wy s b q v (tickM m).1 a c sd k (t + 2) (B + 1048576) ∧ LkO wy (tickM m).2 ((tickM (m.wS sd)).2.map Prod.snd) ∧ (tickM m).2.length ≤ 1000 := by
  have hrt := h.ok.rt
  have sp := tick_sp m B (by omega) h.sp.1 h.sp.2
  refine ⟨h.next h1 (hk.mono (cs := Mp.own s b q v) (fun x hx => .inl (by simp at hx; rcases hx with rfl | rfl <;> simp [Mp.own]))) r2 (vo_of (.inl rfl)) rl (by rw [tick_s]; exact h.lk) h.dat (acc_ok h.ok ht 2) ⟨sp.1, by omega⟩, ?_, ?_⟩
  · rw [(tick_like m sd).2]
    exact LkP.lko (LkP.refl _) (tick_run [] m).1 (tick_run [] m).1 (fun it hi => by simp at hi) (fun it hi => by simp at hi)
  · have h3 : (tickM m).2.length ≤ 2 := acc_len m 2
    omega
/-- What the law's call leaves. -/
def DoP (w wr : World) (s b q : Nat) (v : Value) (k t B : Int) (e : Ending) (w' : World) : Prop :=
  ∃ (v2 : Value) (m2 : Ms) (a2 : Option Addr) (c2 : Nat) (sd2 : List Qd.It), e = .returned (.tuple #[.agg (rsd (m2.wS sd2) a2 c2).toArray, .bool true]) ∧ PlI w w' s b q v2 m2 a2 c2 sd2 k t B ∧ Kept (Mp.own s b q v) wr w'
theorem kept_fin {bs : List Nat} {w w1 w2 w3 : World} {z : Nat} (h1 : Kept [] w w1) (h2 : Kept bs w1 w2) (h3 : Kept [z] w2 w3) (hz : w.heap.size ≤ z) : Kept bs w w3 :=
  (h1.trans h2 (ds := bs) (fun x hx => by simp at hx) (fun g hg => .inl hg)).trans h3 (fun _ h => h) (fun g hg => by simp only [List.mem_cons, List.not_mem_nil, or_false] at hg; subst hg; exact .inr hz)
theorem kept_fin2 {bs : List Nat} {w w1 w2 w3 : World} {z : Nat} (h1 : Kept [] w w1) (h2 : Kept bs w1 w2) (h3 : Kept [z] w2 w3) : Kept (z :: bs) w w3 :=
  (h1.trans h2 (ds := z :: bs) (fun x hx => by simp at hx) (fun g hg => .inl (.tail _ hg))).trans h3 (fun _ h => h) (fun g hg => .inl (by simp only [List.mem_cons, List.not_mem_nil, or_false] at hg; simp [hg]))
theorem oqc_one (y : Oq) : ∀ u ∈ oqc y, u.oneCell' = true := by
  intro u hu
  simp only [oqc, dgl, List.mem_cons, List.mem_append, List.not_mem_nil, or_false] at hu
  rcases hu with rfl | rfl | h | h
  · rfl
  · rfl
  · rcases h with rfl | rfl | rfl | rfl | rfl | rfl | rfl | rfl | rfl | rfl | rfl <;> rfl
  · rcases h with rfl | rfl | rfl <;> rfl
theorem oqc_dg {w : World} {g o : Nat} {y : Oq} (h : w.rangeAt g o (oqc y)) : w.rangeAt g (o + 2) (dgl y.d y.p y.c) := fun j u hu => by
  rw [show o + 2 + j = o + (2 + j) by omega]
  refine h (2 + j) u ?_
  rw [show oqc y = [.int .i64 y.kind, .int .i64 y.rank] ++ (dgl y.d y.p y.c ++ [.int .i64 y.n, .int .i64 y.way, .int .u32 y.thn]) from rfl, List.getElem?_append_right (by simp), show 2 + j - [Value.int .i64 y.kind, Value.int .i64 y.rank].length = j by simp, List.getElem?_append_left (List.getElem?_eq_some_iff.1 hu).1]
  exact hu
theorem infoOq : (Tryz.prog.info? 58).map (·.size) = some 16 := by kernel_rfl
/-- The boxes of the law's call: the sender's, the call's, the result's. -/
structure Bx4 (w W : World) (m : Ms) (a : Option Addr) (c : Nat) (y : Oq) : Prop where
  b : Blk W w.heap.size (rsd m a c) 40
  d : Blk W (w.heap.size + 1) (oqc y) 58
  r : Blk W (w.heap.size + 2) (rsd ms00 none 0) 40
theorem Bx4.kept {w W W2 : World} {m : Ms} {a : Option Addr} {c : Nat} {y : Oq} (h : Bx4 w W m a c y) (hk : Kept [] W W2) : Bx4 w W2 m a c y := ⟨hk.blk h.b (by simp), hk.blk h.d (by simp), hk.blk h.r (by simp)⟩
theorem Bx4.but {w W W2 : World} {s b q : Nat} {v : Value} {m0 m : Ms} {a : Option Addr} {c : Nat} {y : Oq} (h : Bx4 w W m a c y) (r : Sr W s b q v m0) (hk : Kept (Mp.own s b q v) W W2) : Bx4 w W2 m a c y :=
  ⟨hk.blk h.b (r.not_own h.b (by decide) (by decide) (by decide) (by decide)), hk.blk h.d (r.not_own h.d (by decide) (by decide) (by decide) (by decide)), hk.blk h.r (r.not_own h.r (by decide) (by decide) (by decide) (by decide))⟩
theorem do_start (m : Ms) (a : Option Addr) (c : Nat) (y : Oq) (w : World) (Z : Array Value) (hZ : Z.toList = rsd ms00 none 0) {W0 : World}
    (h : ((w.alloc (.cells (rsd m a c).toArray 40)).alloc (.cells (oqc y).toArray 58)).alloc (.cells Z 40) = W0) :
    Bx4 w W0 m a c y ∧ Kept [] w W0 := by
  subst h
  refine ⟨⟨((Blk.new w (rsd m a c) 40).alloc _).alloc _, ?_, ?_⟩, (((Kept.refl _ _).alloc _).alloc _).alloc _⟩
  · have h := (Blk.new (w.alloc (.cells (rsd m a c).toArray 40)) (oqc y) 58).alloc (.cells Z 40)
    rw [show (w.alloc (.cells (rsd m a c).toArray 40)).heap.size = w.heap.size + 1 by simp] at h
    exact h
  · have h := Blk.new' ((w.alloc (.cells (rsd m a c).toArray 40)).alloc (.cells (oqc y).toArray 58)) Z 40
    rw [hZ, show ((w.alloc (.cells (rsd m a c).toArray 40)).alloc (.cells (oqc y).toArray 58)).heap.size = w.heap.size + 2 by simp] at h
    exact h
end Go.Proofs.YtgdofgckjkmhjaaGreat.Mp
namespace Go.Proofs.YtgdofgckjkmhjaaGreat.Mp
open Go Go.RowKit
open Qd (dvl dv0 dvl_one infoDg step_of)
set_option maxHeartbeats 800000 in
theorem dropped_m (s b q : Nat) (v : Value) (m : Ms) (w : World) (r : Sr w s b q v m) :
    Calls Tryz.prog 27 #[.pointer (some ⟨s, 0, none⟩)] w fun e w' => e = .returned (.int .i64 m.drop) ∧ w = w' := by
  have c := r.hs.cell (i := 34) (v := .int .i64 m.drop) rfl
  clear r
  go_enter Tryz.func27, Tryz.ntmps27
  go_wp2
  go_ret
  exact ⟨rfl, rfl⟩
set_option maxHeartbeats 800000 in
theorem held_m (s b q : Nat) (v : Value) (m : Ms) (w : World) (r : Sr w s b q v m) :
    Calls Tryz.prog 28 #[.pointer (some ⟨s, 0, none⟩)] w fun e w' => e = .returned (.int .i64 m.hold) ∧ w = w' := by
  have c := r.hs.cell (i := 35) (v := .int .i64 m.hold) rfl
  clear r
  go_enter Tryz.func28, Tryz.ntmps28
  go_wp2
  go_ret
  exact ⟨rfl, rfl⟩
set_option maxHeartbeats 800000 in
theorem now_m (s b q : Nat) (v : Value) (m : Ms) (w : World) (r : Sr w s b q v m) :
    Calls Tryz.prog 29 #[.pointer (some ⟨s, 0, none⟩)] w fun e w' => e = .returned (.int .u32 (m.now : Int)) ∧ w = w' := by
  have c := r.hs.cell (i := 33) (v := .int .u32 m.now) rfl
  clear r
  go_enter Tryz.func29, Tryz.ntmps29
  go_wp2
  go_ret
  exact ⟨rfl, rfl⟩
theorem infoPb : (Tryz.prog.info? 105).map (·.size) = some 5 := by kernel_rfl
set_option maxRecDepth 100000 in
set_option maxHeartbeats 1600000 in
theorem bucket_m (s b q : Nat) (v : Value) (m : Ms) (w : World) (r : Sr w s b q v m) :
    Calls Tryz.prog 54 #[.pointer (some ⟨s, 0, none⟩)] w fun e w' => e = .returned (.agg (bkc m.rt m.burst m.held m.spent m.full).toArray) ∧ Kept [] w w' := by
  have HB := hx r.hb
  have cb := r.hs.cell (i := 30) (v := .pointer (some ⟨b, 0, none⟩)) rfl
  clear r
  go_enter Tryz.func54, Tryz.ntmps54
  go_upto_region 1 with fail
  generalize hw1 : World.alloc w _ = w1
  have Z1 := hx (show Blk w1 w.heap.size (bkc 0 0 0 0 0) 105 from by rw [← hw1]; exact Blk.new w (bkc 0 0 0 0 0) 105)
  have K1 := hx (show Kept [] w w1 from by rw [← hw1]; exact (Kept.refl _ _).alloc _)
  have c1 := kept_cell' K1.out cb
  have B1 := hx (K1.out.blk HB.out (by simp))
  clear hw1 cb
  go_wp2_with (first
    | (refine load_blk rfl 105 (.tmp 7) rfl b rfl 105 _ _ B1.out Tryz.underlying105 rfl infoPb ?_)
    | (refine store_blk rfl 105 (.tmp 2) (.tmp 8) rfl w.heap.size rfl 105 _ (bkc m.rt m.burst m.held m.spent m.full) rfl Z1.out rfl infoPb (bkc_one _ _ _ _ _) ?_; intro w2 hb2 hk2))
  exact bodyPost_ret (ret_blk rfl _ w.heap.size _ _ _ rfl hb2 Tryz.underlying105 rfl infoPb) rfl ⟨rfl, Kept.behind K1.out hk2 (by omega)⟩
set_option maxRecDepth 100000 in
set_option maxHeartbeats 3200000 in
theorem lbucket_m (s b q : Nat) (v : Value) (m : Ms) (w : World) (r : Sr w s b q v m) :
    Calls Tryz.prog 30 #[.pointer (some ⟨s, 0, none⟩), .agg (bkc m.rt m.burst m.held m.spent m.full).toArray] w fun e w' => e = .returned (.bool true) ∧ Kept [] w w' := by
  have HBM := hx (fun (W : World) (hk : Kept [] w W) => bucket_m s b q v m W (r.kept hk))
  have HB0 := hx (Blk.new w (bkc m.rt m.burst m.held m.spent m.full) 37)
  have K0 := hx ((Kept.refl [] w).alloc (.cells (bkc m.rt m.burst m.held m.spent m.full).toArray 37))
  clear r
  go_enter Tryz.func30, Tryz.ntmps30
  go_upto_region 1 with fail
  generalize hw1 : World.alloc w _ = w1
  have B1 := hx (show Blk w1 w.heap.size (bkc m.rt m.burst m.held m.spent m.full) 37 from by rw [← hw1]; exact HB0.out)
  have K1 := hx (show Kept [] w w1 from by rw [← hw1]; exact K0.out)
  clear hw1 HB0 K0
  go_upto_region 2 with (first
    | (go_at_call 54; refine (HBM.out _ K1.out).mono ?_; rintro e w2 ⟨rfl, hk2⟩; have K2 := hx (K1.out.trans0 hk2); have B2 := hx (hk2.blk B1.out (by simp)); clear hk2)
    | (refine store_blk rfl 105 (.tmp 5) (.tmp 7) rfl w2.heap.size rfl 105 _ (bkc m.rt m.burst m.held m.spent m.full) rfl (Blk.new w2 (bkc 0 0 0 0 0) 105) rfl infoPb (bkc_one _ _ _ _ _) ?_; intro w3 hb3 hk3; have B3 := hx hb3; have KK := hx (((Kept.refl [] w2).alloc _).trans hk3 (ds := []) (fun _ h => h) (fun x h => by simp at h; subst h; exact .inr (Nat.le_refl _))); clear hb3 hk3))
  have D3 := KK.out.blk B2.out (by simp)
  have c0 := B3.out.cell (i := 0) rfl
  have c1 := B3.out.cell (i := 1) rfl
  have c2 := B3.out.cell (i := 2) rfl
  have c3 := B3.out.cell (i := 3) rfl
  have c4 := B3.out.cell (i := 4) rfl
  have e0 := D3.cell (i := 0) rfl
  have e1 := D3.cell (i := 1) rfl
  have e2 := D3.cell (i := 2) rfl
  have e3 := D3.cell (i := 3) rfl
  have e4 := D3.cell (i := 4) rfl
  have KF := hx (K2.out.trans0 KK.out)
  clear D3 B1 B2 K1 K2 HBM
  go_wp2_with fail
  go_ret
  exact ⟨rfl, KF.out⟩
end Go.Proofs.YtgdofgckjkmhjaaGreat.Mp
