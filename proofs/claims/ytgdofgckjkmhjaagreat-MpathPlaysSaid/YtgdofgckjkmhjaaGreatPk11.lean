/- What a flush does, in plain terms. The sender's Flush. What goes goes by rank, in plain terms. The law's example. What goes, in plain terms: by which way, its number, its data (as in MpBg, never both). What a reading of an argument tells of its cells, field by field and element by element. A list of things of one type that comes in: what its cells are. The law: what goes goes by rank. The law MpathFirst. What comes in of the law MpathFirst. The document's sender of datagrams: its state, its list. The document's sender: bytes go; a datagram goes by a way. -/
import Derived.Test.YtgdofgckjkmhjaaGreatPk10
import Derived.Test.YtgdofgckjkmhjaaGreatProg
import Derived.Test.YtgdofgckjkmhjaaGreatPk01
import Derived.ProofKit
import Derived.OpenShut
import Derived.Deep.Slices
import Derived.WideShapes
import Derived.Test.YtgdofgckjkmhjaaGreatPk04
set_option linter.unusedSimpArgs false
set_option linter.unusedVariables false
namespace Go.Proofs.YtgdofgckjkmhjaaGreat.Mp
open Go Go.RowKit
open Qd (dvl dv0 dvl_one infoDg step_of)
/-- As many ways as there are bytes for. -/
def fitW (n held : Int) (l : List Nat) : List Nat := if l.length = 2 ∧ ¬ n * 2 ≤ held then l.take 1 else l
/-- A datagram goes by the first ways. -/
def stA (m : Ms) (x : Qd.Dv) (l : List Nat) : Nat → Ms × List (Nat × Qd.Dv)
  | 0 => (m, [])
  | j + 1 => (stM (stA m x l j).1 (l.getD j 0), (stA m x l j).2 ++ [(l.getD j 0, stD (stA m x l j).1 (l.getD j 0) x)])
def sizeI (x : Qd.Dv) : Int := 33 + (x.d.data.length : Int)
def waysF (m : Ms) (it : Qd.It) : List Nat := fitW (sizeI it.v) m.held (choM m it.rank)
def goF (m : Ms) (it : Qd.It) (r : List Qd.It) : Ms × List (Nat × Qd.Dv) := stA { takeM m (sizeI it.v * ((waysF m it).length : Int)) with s := r } it.v (waysF m it) (waysF m it).length
def flushL : List Qd.It → Ms → Ms × List (Nat × Qd.Dv)
  | [], m => (m, [])
  | it :: r, m => if sizeI it.v * ((waysF m it).length : Int) ≤ m.held then ((flushL r (goF m it r).1).1, (goF m it r).2 ++ (flushL r (goF m it r).1).2) else ({ m with hold := m.hold + 1 }, [])
def flushM (m : Ms) : Ms × List (Nat × Qd.Dv) := flushL m.s m
theorem choM_len (m : Ms) (rank : Int) : ((choM m rank).length = 1 ∨ (choM m rank).length = 2) ∧ ∀ x, x ∈ choM m rank → x < 2 := by
  unfold choM
  (repeat' split) <;> simp
theorem fitW_len (n held : Int) (l : List Nat) (h : l.length = 1 ∨ l.length = 2) (hx : ∀ x, x ∈ l → x < 2) : ((fitW n held l).length = 1 ∨ (fitW n held l).length = 2) ∧ ∀ j, j < (fitW n held l).length → (fitW n held l).getD j 0 = l.getD j 0 ∧ (fitW n held l).getD j 0 < 2 := by
  have hg : ∀ j, j < l.length → l.getD j 0 < 2 := fun j hj => by
    rw [List.getD_eq_getElem?_getD, List.getElem?_eq_getElem hj]
    exact hx _ (List.getElem_mem hj)
  unfold fitW
  split
  · rename_i h2
    refine ⟨.inl (by rw [List.length_take]; omega), fun j hj => ?_⟩
    rw [List.length_take] at hj
    obtain rfl : j = 0 := by omega
    have e : (l.take 1).getD 0 0 = l.getD 0 0 := by
      rw [List.getD_eq_getElem?_getD, List.getD_eq_getElem?_getD, List.getElem?_take_of_lt (by omega)]
    rw [e]
    exact ⟨rfl, hg 0 (by omega)⟩
  · exact ⟨h, fun j hj => ⟨rfl, hg j hj⟩⟩
theorem stA_len (m : Ms) (x : Qd.Dv) (l : List Nat) : ∀ j, (stA m x l j).2.length = j
  | 0 => rfl
  | j + 1 => by
    show ((stA m x l j).2 ++ [_]).length = j + 1
    rw [List.length_append, stA_len m x l j]
    rfl
theorem stA_s (m : Ms) (x : Qd.Dv) (l : List Nat) : ∀ j, (stA m x l j).1.s = m.s
  | 0 => rfl
  | j + 1 => by
    show (stM (stA m x l j).1 _).s = m.s
    rw [stM_s, stA_s m x l j]
theorem stA_ok {m : Ms} {k t : Int} (o : Ok m k t) (x : Qd.Dv) (l : List Nat) : ∀ j, Ok (stA m x l j).1 k t
  | 0 => o
  | j + 1 => (stA_ok o x l j).stamp _
theorem Ok.popped {m : Ms} {k t : Int} (o : Ok m k t) {it : Qd.It} {r : List Qd.It} (h : m.s = it :: r) : Ok { m with s := r } k t :=
  ⟨o.p0, o.p1, o.rt, o.burst, o.held, o.spent, o.full, o.room, o.turns, by
    have h1 := o.len
    rw [h] at h1
    show (r.length : Int) ≤ m.room
    simp at h1
    omega, o.sess, o.now, o.drop, o.hold, fun x hx => o.its x (by rw [h]; exact .tail _ hx)⟩
/-- The first one has gone. -/
theorem Sr.popped {w w' : World} {s b q : Nat} {v v' : Value} {m : Ms} {it : Qd.It} {l : List Qd.It} (r : Sr w s b q v m) (hs : m.s = it :: l) (hk : Kept (q :: v.ownBlock.toList) w w') (hv : v'.ownBlock = v.ownBlock)
    (hq : ∃ h, Qd.Qs w' q v' m.room m.turns h ∧ Qd.Rp h m.turns l) : Sr w' s b q v' { m with s := l } := by
  have n := r.ne
  refine ⟨hk.blk r.hs (fun h => ?_), hk.blk r.hb (fun h => ?_), hq, fun x hx => (r.dat x (by rw [hs]; exact .tail _ hx)).next hk (fun g hg => .inl (by simp only [own, List.mem_cons] at *; exact .inr (.inr hg))) (fun g hg => .inl (by unfold own at *; rw [hv] at hg; exact hg))⟩
  · simp only [List.mem_cons, Option.mem_toList] at h
    rcases h with h | h
    · exact n.sq h
    · exact n.vs h
  · simp only [List.mem_cons, Option.mem_toList] at h
    rcases h with h | h
    · exact n.bq h
    · exact n.vb h
/-- The queue's Pop, by what waits. -/
theorem qpop (q : Nat) (v : Value) (room turns : Int) (h l : List Qd.It) (it : Qd.It) (W : World) (qs : Qd.Qs W q v room turns h) (rp : Qd.Rp h turns (it :: l)) (hb : h.length ≤ 1000000) :
    Calls Tryz.prog 22 #[.pointer (some ⟨q, 0, none⟩)] W fun e w' => (∃ ret, e = .returned ret) ∧ ∃ v', (∃ h2, Qd.Qs w' q v' room turns h2 ∧ Qd.Rp h2 turns l) ∧ Kept (q :: v.ownBlock.toList) W w' ∧ v'.ownBlock = v.ownBlock := by
  have hl := rp.len
  obtain ⟨_, hp⟩ := rp.pop
  refine (Qd.pop_some q v room turns h W qs (by simp at hl; omega) hb).mono ?_
  rintro e w' ⟨he, v', hq, hk, hv⟩
  exact ⟨⟨_, he⟩, v', ⟨_, hq, hp⟩, hk, hv⟩
theorem peek_head {h l : List Qd.It} {it : Qd.It} {T : Int} (rp : Qd.Rp h T (it :: l)) : Qd.peekV h = (it.v, it.rank, true) := by
  obtain ⟨h0, _⟩ := rp.pop
  have hl := rp.len
  cases h with
  | nil => simp at hl
  | cons x h =>
    have : x = it := h0
    subst this
    rfl
theorem peek_none {h : List Qd.It} {T : Int} (rp : Qd.Rp h T []) : Qd.peekV h = (dv0, 0, false) := by
  have hl := rp.len
  cases h with
  | nil => rfl
  | cons x h => simp at hl
/-- How many wait, as memory tells. -/
def waitN (q : Nat) (w : World) : Nat := match w.cell? ⟨q, 2, none⟩ with | some (.slice _ n _) => n | _ => 0
theorem Sr.waitN {w : World} {s b q : Nat} {v : Value} {m : Ms} (r : Sr w s b q v m) : Mp.waitN q w = m.s.length := by
  obtain ⟨h, hq, rp⟩ := r.hq
  obtain ⟨a, c, rfl⟩ := Qd.own_slice hq.own
  have hc := hq.hq.cell (i := 2) rfl
  unfold Mp.waitN
  rw [hc]
  exact rp.len.symm
end Go.Proofs.YtgdofgckjkmhjaaGreat.Mp
namespace Go.Proofs.YtgdofgckjkmhjaaGreat.Mp
open Go Go.RowKit
open Qd (dvl dv0 dvl_one infoDg step_of)
theorem blk_grown {w w' : World} {g : Nat} {xs : List Value} {T : TypeId} {row : Option Nat} (hb : Blk w g xs T) (hg : w.grownBy w' row) (hn : row ≠ some g) : Blk w' g xs T :=
  ((Kept.refl row.toList w).grown hg (fun k e => .inl (by simp [e]))).blk hb (by simpa using hn)
def lenOf : Value → Nat | .slice _ n _ => n | _ => 0
/-- What a flush tells. -/
def FlushP (w : World) (s b q : Nat) (v : Value) (k t : Int) (r : Ms × List (Nat × Qd.Dv)) (e : Ending) (w' : World) : Prop :=
  ∃ u v2, e = .returned u ∧ w'.ownsRow w.heap.size 85 12 u r.2.length (outC r.2) ∧ Sr w' s b q v2 r.1 ∧ Kept (own s b q v) w w' ∧ v2.ownBlock = v.ownBlock ∧ Ok r.1 k (t + 1)
/-- Where a flush stands. -/
structure FlI (m : Ms) (k t : Int) (v : Value) (m1 : Ms) (v1 : Value) (l : List (Nat × Qd.Dv)) : Prop where
  ok : Ok m1 k t
  vo : v1.ownBlock = v.ownBlock
  sub : ∀ x, x ∈ m1.s → x ∈ m.s
  len : l.length + 2 * m1.s.length ≤ 600
  fin : flushM m = ((flushL m1.s m1).1, l ++ (flushL m1.s m1).2)
set_option maxRecDepth 100000 in
set_option maxHeartbeats 12800000 in
theorem flush_m (s b q : Nat) (v : Value) (m : Ms) (k t : Int) (w : World) (r : Sr w s b q v m) (o : Ok m k t) (hk : 65 * k ≤ 1000000) (ht : t ≤ 1000000) :
    Calls Tryz.prog 8 #[.pointer (some ⟨s, 0, none⟩)] w (FlushP w s b q v k t (flushM m)) := by
  have HR := hx r
  have HSL := hx r.own_lt
  have HN := hx r.ne
  have HDT := hx (fun (x : Qd.It) (hx2 : x ∈ m.s) (g o : Nat) (hp : x.v.p = some (⟨g, o, none⟩ : Addr)) (hd : x.v.d.data ≠ []) => (r.dat x hx2).lt hp hd)
  have HI0 := hx (show FlI m k t v m v [] from ⟨o, rfl, fun _ h => h, by have h1 := o.len; have h2 := o.room; simp; omega, by rw [List.nil_append]; rfl⟩)
  clear r o
  go_enter Tryz.func8, Tryz.ntmps8
  go_wp2_with fail
  go_loopw [3] (fun s3 wr => ∃ (m1 : Ms) (v1 : Value) (l : List (Nat × Qd.Dv)), Hx (wr.ownsRow w.heap.size 85 12 s3 l.length (outC l)) ∧ Hx (Sr wr s b q v1 m1) ∧ Hx (Kept (own s b q v) w wr) ∧ Hx (FlI m k t v m1 v1 l)) (fun _ wr => waitN q wr)
  case atStart => exact ⟨m, v, [], hx (World.ownsRow_nil _ _ _ _), HR, hx (Kept.refl _ _), HI0⟩
  case round =>
    obtain ⟨m1, v1, l, HROW, HS, HK, HI⟩ := hrel
    have HWN := hx HS.out.waitN
    have cq := HS.out.hs.cell (i := 31) (v := .pointer (some ⟨q, 0, none⟩)) rfl
    obtain ⟨hh, hqs, hrp⟩ := HS.out.hq
    have HPK := hx (Qd.peek_any q v1 m1.room m1.turns hh wr hqs)
    cases hs : m1.s with
    | nil =>
      rw [hs] at hrp
      rw [peek_none hrp] at HPK
      have HFN := hx (show flushM m = (m1, l) by rw [HI.out.fin, hs]; simp [flushL])
      clear hqs hrp hs
      go_wp2_with (first
        | (go_at_call 17; refine HPK.out.mono ?_; rintro e w2 ⟨rfl, hk2⟩; have K2 := hx hk2; clear hk2)
        | (refine store_blk rfl 50 (.tmp 4) (.tmp 17) rfl w2.heap.size rfl 50 _ (dvl dv0) rfl (Blk.new w2 (dvl dv0) 50) rfl infoDg (dvl_one _) ?_; intro w3 hb3 hk3; have KW := hx (((Kept.refl [] w2).alloc _).trans hk3 (ds := []) (fun _ h => h) (fun x h => by simp at h; subst h; exact .inr (Nat.le_refl _))); clear hb3 hk3))
      go_ret
      have kk := K2.out.trans0 KW.out
      refine ⟨_, v1, rfl, ?_, ?_, HK.out.trans0 kk, HI.out.vo, ?_⟩
      · rw [HFN.out]
        exact Qd.own_kept3 HROW.out (fun g cs _ hg => kk.block g (Array.getElem?_eq_some_iff.1 hg).1 (by simp))
      · rw [HFN.out]
        exact HS.out.kept kk
      · rw [HFN.out]
        have h := HI.out.ok.setW (i := 0) (p := m1.p0) (u := t + 1) (by omega) (HI.out.ok.p0.mono (Int.le_refl _) (by omega))
        exact h
    | cons it rs =>
      rw [hs] at hrp HWN
      rw [peek_head hrp] at HPK
      have HIT := hx (HI.out.ok.its it (by rw [hs]; simp))
      have HSE := hx hs
      have HQ := hx (And.intro hqs hrp)
      obtain ⟨nn, hnn⟩ : ∃ nn, sizeI it.v = nn := ⟨_, rfl⟩
      have hn1 : 33 ≤ nn ∧ nn ≤ 1233 := by rw [← hnn]; unfold sizeI; have := HIT.out.2.1; omega
      have HSZ := hx (fun W => show Calls Tryz.prog 18 #[.agg (dvl it.v).toArray] W (fun e w' => e = .returned (.int .i64 nn) ∧ Kept [] W w') from by
        have h := size_any it.v W (by have := HIT.out.2.1; omega)
        rw [← hnn]
        exact h)
      have HCH := hx (fun (W : World) (hk2 : Kept [] wr W) => choose_m s b q v1 m1 k t it.rank W (HS.out.kept hk2) HI.out.ok hk)
      obtain ⟨l0, hl0⟩ : ∃ l0, choM m1 it.rank = l0 := ⟨_, rfl⟩
      have HCL := hx (choM_len m1 it.rank)
      rw [hl0] at HCH HCL
      have HWF := hx (show waysF m1 it = fitW nn m1.held l0 by unfold waysF; rw [hnn, hl0])
      have HNN := hx hnn
      have hhb := HI.out.ok.held
      have hbb := HI.out.ok.burst
      clear hqs hrp hs hnn hl0
      go_upto_block 2 with (first
        | (go_at_call 17; refine HPK.out.mono ?_; rintro e w2 ⟨rfl, hk2⟩; have K2 := hx hk2; clear hk2 cq)
        | (refine store_blk rfl 50 (.tmp 4) (.tmp 17) rfl w2.heap.size rfl 50 _ (dvl it.v) rfl (Blk.new w2 (dvl dv0) 50) rfl infoDg (dvl_one _) ?_; intro w3 hb3 hk3; have B3 := hx hb3; have K3 := hx (K2.out.trans0 (((Kept.refl [] w2).alloc _).trans hk3 (ds := []) (fun _ h => h) (fun x h => by simp at h; subst h; exact .inr (Nat.le_refl _)))); clear hb3 hk3)
        | (refine load_blk rfl 50 (.tmp 4) rfl w2.heap.size rfl 50 _ _ B3.out Tryz.underlying50 rfl infoDg ?_)
        | (go_at_call 18; refine (HSZ.out _).mono ?_; rintro e w4 ⟨rfl, hk4⟩; have K4 := hx (K3.out.trans0 hk4); have B4 := hx (hk4.blk B3.out (by simp)); clear hk4)
        | (go_at_call 19; refine (HCH.out _ K4.out).mono ?_; rintro e w5 ⟨u, rfl, hu, hk5, hf5⟩; have K5 := hx (K4.out.trans0 hk5); have B5 := hx (hk5.blk B4.out (by simp)); have U5 := hx hu; have F5 := hx hf5; clear hk5 hu hf5))
      obtain ⟨g, c, xs, hu, hlc, hcm, hbx, hcl⟩ := U5.out.at_
      subst hu
      have HCE := hx hcl
      have HBX := hx hbx
      have HGF := hx (F5.out g rfl)
      have hc0 : 1 ≤ c := by have := HCL.out.1; omega
      have hcI : (1 : Int) ≤ (c : Int) := by omega
      have HLC := hx hlc
      have HMB := hx (fun (n : Int) (W : World) (hk2 : Kept [] wr W) => may_any b _ _ _ _ _ n W ((HS.out.kept hk2).hb))
      have R5 := hx (HS.out.kept K5.out)
      clear U5 F5 hcl hlc hcm hbx HPK HCH HSZ K2 K3 K4 B3 B4
      go_cut [8] from 28 to 47 (fun s8 wx => s8 = .slice (some ⟨g, 0, none⟩) (waysF m1 it).length c ∧ wx = w5)
      case first =>
        have cb := R5.out.hs.cell (i := 30) (v := .pointer (some ⟨b, 0, none⟩)) rfl
        have hw2 : IntKind.i64.wrap (nn * 2) = nn * 2 := by rw [IntKind.wrap_i64]; omega
        go_wp2_with fail
        go_loopw [8] (fun s8 w6 => ∃ j : Nat, s8 = .slice (some ⟨g, 0, none⟩) j c ∧ Hx (j = l0.length ∨ (j = 1 ∧ l0.length = 2 ∧ ¬ nn * 2 ≤ m1.held)) ∧ w6 = w5) (fun s8 _ => lenOf s8)
        case atStart => exact ⟨l0.length, rfl, hx (.inl rfl), rfl⟩
        case round =>
          obtain ⟨j, rfl, HJ, rfl⟩ := hrel
          have hj : j = 1 ∨ j = 2 := by have h1 := HCL.out.1; have h2 := HJ.out; omega
          rcases hj with rfl | rfl
          · have HE := hx (show (waysF m1 it).length = 1 by
              rw [HWF.out]
              unfold fitW
              have h2 := HJ.out
              split
              · rw [List.length_take]; omega
              · rename_i h3
                omega)
            go_wp2_with fail
            go_meet
            exact ⟨by rw [HE.out], rfl⟩
          · have h2 : l0.length = 2 := by have := HJ.out; omega
            have HL2 := hx h2
            clear h2
            by_cases hm : nn * 2 ≤ m1.held
            · have HE := hx (show (waysF m1 it).length = 2 by rw [HWF.out]; unfold fitW; rw [if_neg (by omega)]; exact HL2.out)
              have HM := hx (show Calls Tryz.prog 20 #[.pointer (some ⟨b, 0, none⟩), .int .i64 (nn * 2)] wr (fun e w' => e = .returned (.bool true) ∧ wr = w') from by
                have h := HMB.out (nn * 2) wr K5.out
                rw [decide_eq_true (by omega)] at h
                exact h)
              clear hm
              go_wp2_with (go_at_call 20; refine HM.out.mono ?_; rintro e w7 ⟨rfl, rfl⟩)
              go_meet
              exact ⟨by rw [HE.out], rfl⟩
            · have HM := hx (show Calls Tryz.prog 20 #[.pointer (some ⟨b, 0, none⟩), .int .i64 (nn * 2)] wr (fun e w' => e = .returned (.bool false) ∧ wr = w') from by
                have h := HMB.out (nn * 2) wr K5.out
                rw [decide_eq_false (by omega)] at h
                exact h)
              have HNM := hx hm
              clear hm
              go_wp2_with (go_at_call 20; refine HM.out.mono ?_; rintro e w7 ⟨rfl, rfl⟩)
              go_roundw
              case rel => exact ⟨1, rfl, hx (.inr ⟨rfl, HL2.out, by have := HNM.out; omega⟩), by first | rfl | trivial⟩
              case measure => simp [lenOf]
      case rest =>
        obtain ⟨rfl, rfl⟩ := hcut
        obtain ⟨lam, hlam⟩ : ∃ lam, (waysF m1 it).length = lam := ⟨_, rfl⟩
        have hwl0 := fitW_len nn m1.held l0 HCL.out.1 HCL.out.2
        rw [← HWF.out, hlam] at hwl0
        rw [hlam]
        have hl12 := hwl0.1
        have HWG := hx hwl0.2
        have HLAM := hx hlam
        have HLE := hx (show lam ≤ l0.length by
          rw [← hlam, HWF.out]
          unfold fitW
          split
          · rw [List.length_take]; omega
          · exact Nat.le_refl _)
        have hwl : IntKind.i64.wrap (nn * (lam : Int)) = nn * (lam : Int) := by
          rcases hl12 with h | h
          · rw [h, IntKind.wrap_i64]; push_cast; omega
          · rw [h, IntKind.wrap_i64]; push_cast; omega
        have hpos : 0 ≤ nn * (lam : Int) := by
          rcases hl12 with h | h
          · rw [h]; push_cast; omega
          · rw [h]; push_cast; omega
        have hfl : flushL (it :: rs) m1 = if nn * (lam : Int) ≤ m1.held then ((flushL rs (goF m1 it rs).1).1, (goF m1 it rs).2 ++ (flushL rs (goF m1 it rs).1).2) else ({ m1 with hold := m1.hold + 1 }, []) := by
          rw [flushL, HNN.out, hlam]
        have HFL := hx hfl
        have HGO := hx (show goF m1 it rs = stA { takeM m1 (nn * (lam : Int)) with s := rs } it.v (waysF m1 it) lam by unfold goF; rw [HNN.out, hlam])
        have cb := R5.out.hs.cell (i := 30) (v := .pointer (some ⟨b, 0, none⟩)) rfl
        clear hwl0 hlam hfl HWF
        by_cases hgo : nn * (lam : Int) ≤ m1.held
        · have HTK := hx (btake_yes b _ _ _ _ _ (nn * (lam : Int)) wc R5.out.hb hpos hgo (by omega) HI.out.ok.spent)
          have HF1 := hx (show flushM m = ((flushL rs (goF m1 it rs).1).1, l ++ ((goF m1 it rs).2 ++ (flushL rs (goF m1 it rs).1).2)) by rw [HI.out.fin, HSE.out, HFL.out, if_pos hgo])
          have OKT := hx ((HI.out.ok.take (nn * (lam : Int)) hpos hgo).popped (r := rs) (it := it) HSE.out)
          go_upto_region 12 with (go_at_call 21; refine HTK.out.mono ?_; rintro e w6 ⟨rfl, hb6, hk6⟩; have R6 := hx (show Sr w6 s b q v1 (takeM m1 (nn * (lam : Int))) from R5.out.bucket _ _ _ hk6 hb6); have K6 := hx hk6; clear hb6 hk6 cb)
          clear HTK HFL
          have cq := R6.out.hs.cell (i := 31) (v := .pointer (some ⟨q, 0, none⟩)) rfl
          obtain ⟨h6, hqs6, hrp6⟩ := R6.out.hq
          have hrp7 : Qd.Rp h6 m1.turns (it :: rs) := by rw [← HSE.out]; exact hrp6
          have HPOP := hx (qpop q v1 m1.room m1.turns h6 rs it w6 hqs6 hrp7 (by have h1 := hrp7.len; have h2 := HI.out.ok.len; have h3 := HI.out.ok.room; rw [HSE.out] at h2; omega))
          have HQ6 := hx hqs6
          clear hqs6 hrp6 hrp7
          obtain ⟨M1, hM1⟩ : ∃ M1, ({ takeM m1 (nn * (lam : Int)) with s := rs } : Ms) = M1 := ⟨_, rfl⟩
          rw [hM1] at OKT HGO
          have HM1 := hx (show M1.s = rs by rw [← hM1])
          have hne1 := blk_ne R5.out.hb HBX.out (by decide)
          have hne2 := blk_ne R5.out.hb B5.out (by decide)
          have HB6 := hx (K6.out.blk HBX.out (by simp; omega))
          have B6 := hx (K6.out.blk B5.out (by simp; omega))
          have hq1 := blk_ne HQ6.out.hq HB6.out (by decide)
          have hq2 := blk_ne HQ6.out.hq B6.out (by decide)
          have ho1 := own_ne HQ6.out.own HB6.out (by decide)
          have ho2 := own_ne HQ6.out.own B6.out (by decide)
          have HNQ := hx (show g ∉ q :: v1.ownBlock.toList ∧ w2.heap.size ∉ q :: v1.ownBlock.toList by
            constructor
            · intro h
              simp only [List.mem_cons, Option.mem_toList] at h
              rcases h with h | h
              · exact hq1 h.symm
              · exact ho1 h
            · intro h
              simp only [List.mem_cons, Option.mem_toList] at h
              rcases h with h | h
              · exact hq2 h.symm
              · exact ho2 h)
          have HKS := hx (show Kept [b] wr w6 from (K5.out.mono (by simp)).trans K6.out (fun _ h => h) (fun _ h => .inl h))
          clear hne1 hne2 hq1 hq2 ho1 ho2
          go_wp2_with (go_at_call 22; refine HPOP.out.mono ?_; rintro e w7 ⟨⟨ret, rfl⟩, v7, hq7, hk7, hv7⟩; have R7 := hx (show Sr w7 s b q v7 M1 from by rw [← hM1]; exact R6.out.popped (l := rs) (it := it) HSE.out hk7 hv7 hq7); have K7 := hx hk7; have V7 := hx hv7; clear hk7 hq7 hv7 cq)
          have HB7 := hx (And.intro (K7.out.blk HB6.out HNQ.out.1) (K7.out.blk B6.out HNQ.out.2))
          have hsub : ∀ x, x ∈ q :: v1.ownBlock.toList → x ∈ own s b q v := fun x hx => by rw [HI.out.vo] at hx; simp only [own, List.mem_cons] at *; exact .inr (.inr hx)
          have KW7 := hx (show Kept (own s b q v) w w7 from (HK.out.trans HKS.out (fun _ h => h) (fun x hx => .inl (by simp at hx; subst hx; simp [own]))).trans K7.out (fun _ h => h) (fun x hx => .inl (hsub x hx)))
          have HRW7 := hx (show w7.ownsRow w.heap.size 85 12 _ l.length (outC l) from Qd.own_kept3 (Qd.own_kept3 HROW.out (fun g cs hv hg => HKS.out.block g (Array.getElem?_eq_some_iff.1 hg).1 (by have h1 := (HROW.out.lt g hv).1; have h2 := HSL.out b (by simp [own]); simp; omega))) (fun g cs hv hg => K7.out.block g (Array.getElem?_eq_some_iff.1 hg).1 (fun hm => by have h1 := (HROW.out.lt g hv).1; have h2 := HSL.out g (hsub g hm); omega)))
          clear hM1 hsub
          go_loopw [73, 3] (fun s73 s3 w9 => ∃ j : Nat, s73 = .int .i64 (j : Int) ∧ j ≤ lam ∧ Hx (w9.ownsRow w.heap.size 85 12 s3 (l ++ (stA M1 it.v (waysF m1 it) j).2).length (outC (l ++ (stA M1 it.v (waysF m1 it) j).2))) ∧ Hx (Sr w9 s b q v7 (stA M1 it.v (waysF m1 it) j).1) ∧ Hx (Kept (own s b q v) w w9) ∧ Hx (Blk w9 g xs 3 ∧ Blk w9 w2.heap.size (dvl it.v) 50)) (fun s73 _ _ => lam - (intOf s73).toNat)
          case atStart => exact ⟨0, rfl, Nat.zero_le _, by show Hx (w7.ownsRow _ _ _ _ (l ++ []).length (outC (l ++ []))); rw [List.append_nil]; exact HRW7, R7, KW7, HB7⟩
          case round =>
            obtain ⟨j, rfl, hj, HRJ, HSJ, HKJ, HBJ⟩ := hrel
            by_cases hjl : j < lam
            · have hji : (j : Int) < (lam : Int) := by omega
              obtain ⟨x, hxx⟩ : ∃ x, (waysF m1 it).getD j 0 = x := ⟨_, rfl⟩
              have hxl := HWG.out j hjl
              rw [hxx] at hxl
              have cx : wr.cell? ⟨g, j, none⟩ = some (.int .i64 (x : Int)) := by
                have h := HBJ.out.1.cell (HCE.out j (by have := HLE.out; omega))
                rw [← hxl.1] at h
                exact h
              have HX2 := hx hxl.2
              have OKJ := hx (stA_ok OKT.out it.v (waysF m1 it) j)
              have HSS := hx (stA_s M1 it.v (waysF m1 it) j)
              have HLJ := hx (stA_len M1 it.v (waysF m1 it) j)
              obtain ⟨MJ, hMJ⟩ : ∃ MJ, (stA M1 it.v (waysF m1 it) j).1 = MJ := ⟨_, rfl⟩
              obtain ⟨LJ, hLJ⟩ : ∃ LJ, (stA M1 it.v (waysF m1 it) j).2 = LJ := ⟨_, rfl⟩
              have HNJ := hx (show (stA M1 it.v (waysF m1 it) (j + 1)).1 = stM MJ x ∧ (stA M1 it.v (waysF m1 it) (j + 1)).2 = LJ ++ [(x, stD MJ x it.v)] by rw [← hMJ, ← hLJ, ← hxx]; exact ⟨rfl, rfl⟩)
              rw [hMJ] at HSJ OKJ HSS
              rw [hLJ] at HRJ HLJ
              have HST := hx (stamp_m s b q x v7 MJ it.v wr HSJ.out hxl.2 (OKJ.out.way x).next)
              have HOE := hx (show own s b q v7 = own s b q v by unfold own; rw [V7.out, HI.out.vo])
              have HJL := hx hjl
              have HKR := hx (fun (W : World) (hk3 : Kept [s] wr W) => show W.ownsRow w.heap.size 85 12 _ (l ++ LJ).length (outC (l ++ LJ)) from Qd.own_kept3 HRJ.out (fun g3 cs hv hg => hk3.block g3 (Array.getElem?_eq_some_iff.1 hg).1 (by have h1 := (HRJ.out.lt g3 hv).1; have h2 := HSL.out s (by simp [own]); simp; omega)))
              have HSG := hx (show s ≠ g ∧ s ≠ w2.heap.size from ⟨blk_ne HSJ.out.hs HBJ.out.1 (by decide), blk_ne HSJ.out.hs HBJ.out.2 (by decide)⟩)
              have HLL := hx (show (l ++ LJ).length ≤ 1000000 by rw [List.length_append, HLJ.out]; have := HI.out.len; omega)
              clear hMJ hLJ hxx hxl hjl hj
              go_wp2_with (first
                | (refine load_blk rfl 50 (.tmp 4) rfl w2.heap.size rfl 50 _ _ HBJ.out.2 Tryz.underlying50 rfl infoDg ?_)
                | (go_at_call 23; refine HST.out.mono ?_; rintro e wa ⟨rfl, hra, hka⟩; have RA := hx hra; have KA := hx hka; clear hra hka)
                | (refine wpList_bs1 rfl 51 85 (.tmp 81) rfl 12 96 _ infoSn3 (snt (x : Int) (stD MJ x it.v)) rfl rfl (by omega) (by omega) Tryz.underlying51 ?_; intro wb hbb2 hkb; have BB := hx hbb2; have KB := hx (show Kept [s] wr wb from KA.out.trans0 hkb); have RB := hx (RA.out.kept hkb); clear hbb2 hkb)
                | (refine out_app rfl (.tmp 77) (.tmp 82) rfl w.heap.size _ (l ++ LJ) rfl (HKR.out _ KB.out) wa.heap.size (x, stD MJ x it.v) rfl BB.out HLL.out (Nat.le_trans HKJ.out.size KB.out.size) ?_; intro vd wd hod hgd; have HOD := hx hod; have HGD := hx hgd; clear hod hgd))
              have hro := HKR.out _ KB.out
              have RD := RB.out.row hro HGD.out (fun g3 hg3 => HSL.out g3 (by rw [← HOE.out]; exact hg3)) (fun y hy => HDT.out y (HI.out.sub y (by rw [HSE.out]; rw [stM_s, HSS.out, HM1.out] at hy; exact .tail _ hy)))
              go_roundw
              case rel =>
                refine ⟨j + 1, by push_cast; rfl, by have := HJL.out; omega, ?_, ?_, ?_, ?_⟩
                · rw [HNJ.out.2, ← List.append_assoc]
                  exact HOD
                · rw [HNJ.out.1]
                  exact hx RD
                · exact hx ((HKJ.out.trans KB.out (fun _ h => h) (fun g3 hg3 => .inl (by simp at hg3; subst hg3; simp [own]))).grown HGD.out (fun g3 hg3 => .inr (hro.lt g3 hg3).1))
                · have b1 := KB.out.blk HBJ.out.1 (by have := HSG.out.1; simp; omega)
                  have b2 := KB.out.blk HBJ.out.2 (by have := HSG.out.2; simp; omega)
                  exact hx ⟨blk_grown b1 HGD.out (own_ne hro b1 (by decide)), blk_grown b2 HGD.out (own_ne hro b2 (by decide))⟩
              case measure =>
                simp only [intOf]
                have := HJL.out
                omega
            · obtain rfl : j = lam := by omega
              have HGS := hx (stA_s M1 it.v (waysF m1 it) j)
              have OKG := hx (stA_ok OKT.out it.v (waysF m1 it) j)
              have HGL := hx (stA_len M1 it.v (waysF m1 it) j)
              rw [← HGO.out] at HSJ HRJ HGS OKG HGL
              have HWN2 := hx HSJ.out.waitN
              clear hjl hj
              go_wp2_with fail
              go_roundw
              case rel =>
                refine ⟨(goF m1 it rs).1, v7, l ++ (goF m1 it rs).2, HRJ, HSJ, HKJ, hx ⟨OKG.out, by rw [V7.out, HI.out.vo], fun y hy => HI.out.sub y (by rw [HSE.out]; rw [HGS.out, HM1.out] at hy; exact .tail _ hy), ?_, ?_⟩⟩
                · have h1 := HI.out.len
                  rw [HSE.out] at h1
                  rw [HGS.out, HM1.out, List.length_append, HGL.out]
                  simp at h1
                  omega
                · rw [HF1.out, HGS.out, HM1.out, List.append_assoc]
              case measure =>
                rw [HWN2.out, HGS.out, HM1.out, HWN.out]
                simp
        · have HTK := hx (btake_no b _ _ _ _ _ (nn * (lam : Int)) wc R5.out.hb (by omega))
          have HF1 := hx (show flushM m = ({ m1 with hold := m1.hold + 1 }, l) by rw [HI.out.fin, HSE.out, HFL.out, if_neg hgo]; simp [HSE.out])
          have ho1 := HI.out.ok.hold
          go_upto_region 10 with (go_at_call 21; refine HTK.out.mono ?_; rintro e w6 ⟨rfl, rfl⟩)
          have ch := R5.out.hs.cell (i := 35) (v := .int .i64 m1.hold) rfl
          have fh := R5.out.hs.free
          go_upto_region 11 with fail
          generalize hw8 : World.setCell _ _ _ = w8
          have HS8 := hx (show Blk w8 s (sdc { m1 with hold := m1.hold + 1 } b q) 74 by rw [← hw8]; exact R5.out.hs.set 35 _)
          have K8 := hx (show Kept [s] _ w8 by rw [← hw8]; exact (Kept.refl _ _).setCell (.inl (by simp)) _)
          clear hw8 ch fh cb
          have RF := hx (R5.out.cells K8.out HS8.out ⟨rfl, rfl, rfl, rfl, rfl, rfl, rfl, rfl⟩)
          go_wp2_with fail
          go_ret
          have kk := (K5.out.mono (cs := [s]) (by simp)).trans K8.out (fun _ h => h) (fun _ h => .inl h)
          refine ⟨_, v1, rfl, ?_, ?_, HK.out.trans kk (fun _ h => h) (fun g hg => .inl (by simp at hg; subst hg; simp [own])), HI.out.vo, ?_⟩
          · rw [HF1.out]
            exact Qd.own_kept3 HROW.out (fun g cs hv hg => kk.block g (Array.getElem?_eq_some_iff.1 hg).1 (by have h1 := (HROW.out.lt g hv).1; have h2 := HSL.out s (by simp [own]); simp; omega))
          · rw [HF1.out]
            exact RF.out
          · rw [HF1.out]
            have o1 := HI.out.ok
            exact ⟨o1.p0.mono (Int.le_refl _) (by omega), o1.p1.mono (Int.le_refl _) (by omega), o1.rt, o1.burst, o1.held, o1.spent, o1.full, o1.room, o1.turns, o1.len, o1.sess, o1.now, o1.drop, ⟨by show 0 ≤ m1.hold + 1; omega, by show m1.hold + 1 ≤ t + 1; omega⟩, o1.its⟩
end Go.Proofs.YtgdofgckjkmhjaaGreat.Mp
namespace Go.Proofs.YtgdofgckjkmhjaaGreat.Mp
open Go Go.RowKit
/-- What has gone: whose datagrams they were. -/
structure Gone (s : List Qd.It) (l : List (Nat × Qd.Dv)) (rest : List Qd.It) (its : List Qd.It) : Prop where
  len : its.length = l.length
  a : ∀ (j : Nat) y x, l[j]? = some y → its[j]? = some x → y.2.d.a = x.v.d.a
  sub : ∀ x, x ∈ its → x ∈ s
  rst : ∀ x, x ∈ rest → x ∈ s
  ord : its.Pairwise (fun x y => x = y ∨ Qd.lt x y)
  aft : ∀ x, x ∈ its → ∀ y, y ∈ rest → Qd.lt x y
theorem stA_a (m : Ms) (x : Qd.Dv) (l : List Nat) : ∀ n (j : Nat) y, (stA m x l n).2[j]? = some y → y.2.d.a = x.d.a
  | 0, j, y, h => by simp [stA] at h
  | n + 1, j, y, h => by
    have h2 : ((stA m x l n).2 ++ [(l.getD n 0, stD (stA m x l n).1 (l.getD n 0) x)])[j]? = some y := h
    rcases Nat.lt_or_ge j (stA m x l n).2.length with hj | hj
    · rw [List.getElem?_append_left hj] at h2
      exact stA_a m x l n j y h2
    · rw [List.getElem?_append_right hj] at h2
      have h3 := List.mem_of_getElem? h2
      simp only [List.mem_cons, List.not_mem_nil, or_false] at h3
      subst h3
      rfl
theorem flush_gone : ∀ (s : List Qd.It) (m : Ms), s.Pairwise Qd.lt → m.s = s → ∃ its, Gone s (flushL s m).2 (flushL s m).1.s its
  | [], m, _, hs => ⟨[], by
    simp only [flushL]
    exact ⟨rfl, fun j y x h _ => by simp at h, fun x h => by simp at h, fun x h => by rw [hs] at h; exact h, .nil, fun x h => by simp at h⟩⟩
  | it :: r, m, hp, hs => by
    rw [List.pairwise_cons] at hp
    by_cases hgo : sizeI it.v * ((waysF m it).length : Int) ≤ m.held
    · have hgs : (goF m it r).1.s = r := by unfold goF; rw [stA_s]
      obtain ⟨its, h⟩ := flush_gone r (goF m it r).1 hp.2 hgs
      have hfl : flushL (it :: r) m = ((flushL r (goF m it r).1).1, (goF m it r).2 ++ (flushL r (goF m it r).1).2) := by rw [flushL, if_pos hgo]
      have hgl : (goF m it r).2.length = (waysF m it).length := by unfold goF; rw [stA_len]
      have hga : ∀ (j : Nat) y, (goF m it r).2[j]? = some y → y.2.d.a = it.v.d.a := fun j y hy => stA_a _ _ _ _ j y hy
      refine ⟨List.replicate (waysF m it).length it ++ its, ?_⟩
      rw [hfl]
      refine ⟨by simp [hgl, h.len], fun j y x hy hx => ?_, fun x hx => ?_, fun x hx => .tail _ (h.rst x hx), ?_, fun x hx y hy => ?_⟩
      · rcases Nat.lt_or_ge j (waysF m it).length with hj | hj
        · simp only at hy
          rw [List.getElem?_append_left (by omega)] at hy
          rw [List.getElem?_append_left (by simpa using hj)] at hx
          have hx2 : x = it := by
            have := List.mem_of_getElem? hx
            simp at this
            exact this.2
          rw [hx2]
          exact hga j y hy
        · simp only at hy
          rw [List.getElem?_append_right (by omega), hgl] at hy
          rw [List.getElem?_append_right (by simpa using hj)] at hx
          simp only [List.length_replicate] at hx
          exact h.a _ y x hy hx
      · rcases List.mem_append.1 hx with h1 | h1
        · have h2 := (List.mem_replicate.1 h1).2
          rw [h2]
          exact List.mem_cons_self
        · exact .tail _ (h.sub x h1)
      · rw [List.pairwise_append]
        refine ⟨?_, h.ord, fun x hx y hy => ?_⟩
        · exact List.pairwise_replicate.2 (.inr (.inl rfl))
        · rw [(List.mem_replicate.1 hx).2]
          exact .inr (hp.1 y (h.sub y hy))
      · rcases List.mem_append.1 hx with h1 | h1
        · rw [(List.mem_replicate.1 h1).2]
          exact hp.1 y (h.rst y hy)
        · exact h.aft x h1 y hy
    · have hfl : flushL (it :: r) m = ({ m with hold := m.hold + 1 }, []) := by rw [flushL, if_neg hgo]
      refine ⟨[], ?_⟩
      rw [hfl]
      exact ⟨rfl, fun j y x h _ => by simp at h, fun x h => by simp at h, fun x h => by rw [← hs]; exact h, .nil, fun x h => by simp at h⟩
end Go.Proofs.YtgdofgckjkmhjaaGreat.Mp
namespace Go.Proofs.YtgdofgckjkmhjaaGreat.Mp
open Go Go.RowKit
open Qd (dvl dv0 dvl_one infoDg step_of)
theorem push_ok {m : Ms} {k t rank : Int} {d : Dg} {x : Qd.Dv} (o : Ok m k t) (hc : chk (pushD m d) = 0) (hx : x.d = pushD m d) : Ok { pushM m rank x with drop := if goneB m.room m.s then m.drop + 1 else m.drop } (k + 1) t := by
  refine ⟨o.p0.mono (by omega) (Int.le_refl _), o.p1.mono (by omega) (Int.le_refl _), o.rt, o.burst, o.held, o.spent, o.full, o.room, ⟨by show 0 ≤ m.turns + 1; have := o.turns; omega, by show m.turns + 1 ≤ k + 1; have := o.turns; omega⟩, pushS_len o.len, o.sess, o.now, ?_, o.hold, fun y hy => ?_⟩
  · have h := o.drop
    show 0 ≤ (if goneB m.room m.s then m.drop + 1 else m.drop) ∧ (if goneB m.room m.s then m.drop + 1 else m.drop) ≤ k + 1
    split <;> omega
  · rcases pushS_mem hy with rfl | h
    · show chk x.d = 0 ∧ x.d.data.length ≤ 1200 ∧ x.d.sess = m.sess ∧ x.d.path = 0
      rw [hx]
      exact ⟨hc, chk_len hc, rfl, rfl⟩
    · exact o.its y h
/-- Where the example stands. -/
structure Awk (i : Nat) (m : Ms) : Prop where
  ok : Ok m i 0
  key : ¬ keyI m.p1 < keyI m.p0
  held : m.held = 66
  room : m.room = 9
  len : m.s.length = i
  its : ∀ x, x ∈ m.s → x.rank = 2 ∧ x.v.d.data = []
def kd0 : Dg := { Qd.dg0 with kind := 7 }
theorem builtK : Tryz.prog.built 50 [(0, .int .i64 7)] = some (dgl kd0 none 0).toArray := by kernel_rfl
theorem awk_push {i : Nat} {m : Ms} {x : Qd.Dv} (h : Awk i m) (hi : i < 3) (hc : chk (pushD m kd0) = 0) (hx : x.d = pushD m kd0) : Awk (i + 1) { pushM m 2 x with drop := if goneB m.room m.s then m.drop + 1 else m.drop } := by
  refine ⟨by have := push_ok (rank := 2) h.ok hc hx; push_cast; exact this, h.key, h.held, h.room, ?_, fun y hy => ?_⟩
  · show (pushS m.room m.s ⟨2, m.turns + 1, x⟩).length = i + 1
    unfold pushS
    have hl := Qd.ins_len m.s ⟨2, m.turns + 1, x⟩
    rw [if_neg (by rw [h.room, hl, h.len]; push_cast; omega), hl, h.len]
  · rcases pushS_mem hy with rfl | h2
    · exact ⟨rfl, by show x.d.data = []; rw [hx]; rfl⟩
    · exact h.its y h2
theorem go_one {m : Ms} {it : Qd.It} (r : List Qd.It) (hk : ¬ keyI m.p1 < keyI m.p0) (h2 : it.rank = 2) (hd : it.v.d.data = []) :
    waysF m it = [0] ∧ sizeI it.v = 33 ∧ (goF m it r).1.s = r ∧ (goF m it r).1.held = m.held - 33 ∧ ¬ keyI (goF m it r).1.p1 < keyI (goF m it r).1.p0 ∧ (goF m it r).2.length = 1 := by
  have h1 : choM m it.rank = [0] := by
    unfold choM
    rw [if_neg hk, h2]
    have : manyB m 0 2 = false := by unfold manyB; simp
    rw [this]
    rfl
  have hs : sizeI it.v = 33 := by unfold sizeI; rw [hd]; rfl
  have hw : waysF m it = [0] := by unfold waysF fitW; rw [h1]; rfl
  have hg : goF m it r = (stM { takeM m 33 with s := r } 0, [(0, stD { takeM m 33 with s := r } 0 it.v)]) := by
    unfold goF
    rw [hw, hs]
    rfl
  refine ⟨hw, hs, ?_, ?_, ?_, ?_⟩
  · rw [hg]; exact stM_s _ _
  · rw [hg]; rfl
  · rw [hg]; exact hk
  · rw [hg]; rfl
theorem awk_flush {m : Ms} (h : Awk 3 m) : (flushM m).2.length = 2 ∧ (flushM m).1.s.length = 1 := by
  have hl := h.len
  match hs : m.s, hl with
  | [a, b, c], _ =>
    have ia := h.its a (by rw [hs]; simp)
    have ib := h.its b (by rw [hs]; simp)
    have ic := h.its c (by rw [hs]; simp)
    obtain ⟨a1, a2, a3, a4, a5, a6⟩ := go_one [b, c] h.key ia.1 ia.2
    obtain ⟨b1, b2, b3, b4, b5, b6⟩ := go_one [c] a5 ib.1 ib.2
    obtain ⟨c1, c2, _, _, _, _⟩ := go_one [] b5 ic.1 ic.2
    have hm := h.held
    unfold flushM
    rw [hs, flushL, a1, a2, if_pos (by simp; omega), flushL, b1, b2, if_pos (by rw [a4]; simp; omega), flushL, c1, c2, if_neg (by rw [b4, a4]; simp; omega)]
    refine ⟨?_, ?_⟩
    · simp only [List.length_append, a6, b6, List.length_nil]
    · show (goF (goF m a [b, c]).1 b [c]).1.s.length = 1
      rw [b3]
      rfl
set_option maxRecDepth 100000 in
set_option maxHeartbeats 6400000 in
theorem awake_m (w : World) : Calls Tryz.prog 4 #[] w fun e w' => e = .returned (.bool true) ∧ Kept [] w w' := by
  have HNW := hx (new_m 7 10 66 9 w (by omega) (by omega) (by omega))
  go_enter Tryz.func4, Tryz.ntmps4
  go_wp2_with (go_at_call 6; refine HNW.out.mono ?_; rintro e w1 ⟨s, b, q, rfl, hr, hk, hs, hb, hq⟩; have R1 := hx hr; have K1 := hx hk; have F1 := hx (And.intro hs (And.intro hb hq)); clear hr hk hs hb hq)
  go_loopw [3] (fun s3 wr => ∃ (i : Nat) (m : Ms) (v : Value), s3 = .int .i64 (i : Int) ∧ i ≤ 3 ∧ Hx (Awk i m) ∧ Hx (Sr wr s b q v m) ∧ Hx (Kept [] w wr) ∧ Hx (∀ g, g ∈ own s b q v → w.heap.size ≤ g)) (fun s3 _ => 3 - (intOf s3).toNat)
  case atStart => exact ⟨0, ms0 7 10 66 9, _, rfl, by omega, hx ⟨ms0_ok 7 10 66 9 (by omega) (by omega) (by omega) (by omega), by simp [ms0], rfl, rfl, rfl, fun x hx => by simp [ms0] at hx⟩, R1, K1, hx (fun g hg => by
    simp only [own, Value.ownBlock, List.mem_cons, Option.toList_none, List.not_mem_nil, or_false] at hg
    have := F1.out
    rcases hg with rfl | rfl | rfl <;> omega)⟩
  case round =>
    obtain ⟨i, m, v, rfl, hi, HA, HR, HK, HF⟩ := hrel
    by_cases hlt : i < 3
    · have hl : (i : Int) < 3 := by omega
      have HLT := hx hlt
      have hc : chk (pushD m kd0) = 0 := by
        unfold chk
        rw [if_neg (by simp [pushD, kd0]), if_neg (by
          have : formB (pushD m kd0) = true := by
            unfold formB
            apply decide_eq_true
            simp [formP, pushD, kd0, Qd.dg0]
          rw [this]
          simp [pushD])]
      have HC := hx hc
      have HPU := hx (push_m s b q v m i 0 2 kd0 none 0 0 wr HR.out HA.out.ok (by omega) ⟨rfl, Nat.le_refl _, by unfold maxLen; omega, fun _ => rfl, fun j hj => by simp [kd0, Qd.dg0] at hj⟩)
      clear hc hi
      go_wp2_with (first
        | (refine wpList_built rfl 50 _ rfl _ [(0, .int .i64 7)] (by simp only [List.map_toArray, List.map_cons, List.map_nil]; rfl) builtK ?_)
        | (go_at_call 7; refine HPU.out.mono ?_; rintro e w2 ⟨rfl, v2, m2, hr2, hk2, hv2, hm2⟩; have R2 := hx hr2; have K2 := hx hk2; have V2 := hx hv2; have M2 := hx hm2; clear hr2 hk2 hv2 hm2))
      have hm2 := M2.out
      rw [if_pos HC.out] at hm2
      obtain ⟨x, hx1, hx2⟩ := hm2
      go_roundw
      case rel =>
        refine ⟨i + 1, m2, v2, by push_cast; rfl, by have := HLT.out; omega, hx ?_, R2, hx (HK.out.trans K2.out (fun _ h => h) (fun g hg => .inr (HF.out g hg))), hx (fun g hg => ?_)⟩
        · rw [hx2]
          exact awk_push HA.out HLT.out HC.out hx1
        · simp only [own, List.mem_cons, Option.mem_toList] at hg
          have hf := HF.out g
          simp only [own, List.mem_cons, Option.mem_toList] at hf
          rcases hg with h | h | h | h
          · exact hf (.inl h)
          · exact hf (.inr (.inl h))
          · exact hf (.inr (.inr (.inl h)))
          · rcases V2.out with e | ⟨g2, e, hs⟩
            · rw [e] at h; exact hf (.inr (.inr (.inr h)))
            · rw [e] at h
              simp only [Option.some.injEq] at h
              have := HK.out.size
              omega
      case measure =>
        simp only [intOf]
        have := HLT.out
        omega
    · obtain rfl : i = 3 := by omega
      have HFL := hx (flush_m s b q v m (3 : Nat) 0 wr HR.out HA.out.ok (by omega) (by omega))
      obtain ⟨hf2, hf1⟩ := awk_flush HA.out
      obtain ⟨FM, hFM⟩ : ∃ FM, flushM m = FM := ⟨_, rfl⟩
      rw [hFM] at HFL hf1 hf2
      have HF1 := hx hf1
      have HF2 := hx hf2
      clear hFM hf1 hf2 hi hlt
      go_wp2_with (first
        | (go_at_call 8; refine HFL.out.mono ?_; rintro e w3 ⟨u, v3, rfl, ho, hr, hk, _, _⟩; obtain ⟨au, cu, hu⟩ := Qd.own_slice ho; rw [HF2.out] at hu; subst hu; have R3 := hx hr; have K3 := hx hk; clear ho hr hk)
        | (go_at_call 9; refine (waiting_m s b q v3 _ _ R3.out).mono ?_; rintro e w4 ⟨rfl, rfl⟩; rw [HF1.out]))
      go_ret
      exact ⟨rfl, HK.out.trans K3.out (fun _ h => h) (fun g hg => .inr (HF.out g hg))⟩
end Go.Proofs.YtgdofgckjkmhjaaGreat.Mp
namespace Go.Proofs.YtgdofgckjkmhjaaGreat.Mp
open Go Go.RowKit
/-- A way's next number. -/
def nxt (n : Nat × Nat) (i : Nat) : Nat := if i = 0 then n.1 else n.2
def bump (n : Nat × Nat) (i : Nat) : Nat × Nat := if i = 0 then (nextU n.1, n.2) else (n.1, nextU n.2)
def nms (m : Ms) : Nat × Nat := (m.p0.next, m.p1.next)
/-- What goes: by a way that there is, its number the next one, well formed; of one that waits, or empty. -/
def Run (s : List Qd.It) : Nat × Nat → List (Nat × Qd.Dv) → Nat × Nat → Prop
  | n, [], n' => n = n'
  | n, y :: l, n' => (y.1 < 2 ∧ y.2.d.path = (y.1 : Int) ∧ y.2.d.seq = nxt n y.1 ∧ chk y.2.d = 0 ∧ ((∃ it, it ∈ s ∧ y.2.p = it.v.p ∧ y.2.c = it.v.c ∧ y.2.d.data = it.v.d.data) ∨ (y.2.p = none ∧ y.2.c = 0 ∧ y.2.d.data = []))) ∧ Run s (bump n y.1) l n'
def bytesOf : List (Nat × Qd.Dv) → Int
  | [] => 0
  | y :: l => sizeI y.2 + bytesOf l
theorem Run.app {s : List Qd.It} : ∀ {l r : List (Nat × Qd.Dv)} {a b c : Nat × Nat}, Run s a l b → Run s b r c → Run s a (l ++ r) c
  | [], r, a, b, c, h, g => by
    have h2 : a = b := h
    rw [h2]
    exact g
  | y :: l, r, a, b, c, h, g => ⟨h.1, Run.app h.2 g⟩
theorem Run.mono {s t : List Qd.It} (hs : ∀ x, x ∈ s → x ∈ t) : ∀ {l : List (Nat × Qd.Dv)} {a b : Nat × Nat}, Run s a l b → Run t a l b
  | [], a, b, h => h
  | y :: l, a, b, h => ⟨⟨h.1.1, h.1.2.1, h.1.2.2.1, h.1.2.2.2.1, h.1.2.2.2.2.imp (fun ⟨it, h1, h2⟩ => ⟨it, hs it h1, h2⟩) id⟩, Run.mono hs h.2⟩
theorem bytes_app : ∀ l r : List (Nat × Qd.Dv), bytesOf (l ++ r) = bytesOf l + bytesOf r
  | [], r => by simp [bytesOf]
  | y :: l, r => by
    show sizeI y.2 + bytesOf (l ++ r) = sizeI y.2 + bytesOf l + bytesOf r
    rw [bytes_app l r]
    omega
theorem nms_st (m : Ms) (i : Nat) : nms (stM m i) = bump (nms m) i := by
  unfold nms stM Ms.setW bump Ms.way
  by_cases h : i = 0
  · simp [h]
  · simp [h]
theorem nxt_way (m : Ms) (i : Nat) : (m.way i).next = nxt (nms m) i := by
  unfold Ms.way nxt nms
  split <;> rfl
theorem chk_st {m : Ms} {i : Nat} {x : Qd.Dv} (hi : i < 2) (h : chk x.d = 0) : chk (stD m i x).d = 0 := by
  obtain ⟨h1, _, h3⟩ := chk_form h
  unfold chk
  have hf : formB (stD m i x).d = true := decide_eq_true (show formP (stD m i x).d from h3)
  rw [if_neg (by show ¬ (x.d.kind < 1 ∨ 8 < x.d.kind); omega), if_neg (by
    rw [hf]
    show ¬ ((i : Int) < 0 ∨ 2 ≤ (i : Int) ∨ true = false)
    simp
    omega)]
theorem stA_run {s : List Qd.It} {it : Qd.It} (hit : it ∈ s) (hc : chk it.v.d = 0) (m : Ms) (l : List Nat) : ∀ n, n ≤ l.length → (∀ j, j < l.length → l.getD j 0 < 2) → Run s (nms m) (stA m it.v l n).2 (nms (stA m it.v l n).1) ∧ bytesOf (stA m it.v l n).2 = sizeI it.v * (n : Int) ∧ (stA m it.v l n).1.held = m.held
  | 0, _, _ => ⟨rfl, by simp [stA, bytesOf], rfl⟩
  | n + 1, hn, hl => by
    obtain ⟨h1, h2, h3⟩ := stA_run hit hc m l n (by omega) hl
    have hi := hl n (by omega)
    have hs : sizeI (stD (stA m it.v l n).1 (l.getD n 0) it.v) = sizeI it.v := rfl
    refine ⟨?_, ?_, ?_⟩
    · show Run s (nms m) ((stA m it.v l n).2 ++ [(l.getD n 0, stD (stA m it.v l n).1 (l.getD n 0) it.v)]) (nms (stM (stA m it.v l n).1 (l.getD n 0)))
      refine Run.app h1 ⟨⟨hi, rfl, nxt_way _ _, chk_st hi hc, .inl ⟨it, hit, rfl, rfl, rfl⟩⟩, ?_⟩
      exact (nms_st _ _).symm
    · show bytesOf ((stA m it.v l n).2 ++ [(l.getD n 0, stD (stA m it.v l n).1 (l.getD n 0) it.v)]) = _
      rw [bytes_app, h2]
      show sizeI it.v * (n : Int) + (sizeI (stD (stA m it.v l n).1 (l.getD n 0) it.v) + 0) = _
      rw [hs]
      push_cast
      rw [Int.mul_add]
      omega
    · show (stM (stA m it.v l n).1 (l.getD n 0)).held = m.held
      rw [show (stM (stA m it.v l n).1 (l.getD n 0)).held = (stA m it.v l n).1.held from (setW_same _ _ _).2.2.1, h3]
theorem ways_lt (m : Ms) (it : Qd.It) : ∀ j, j < (waysF m it).length → (waysF m it).getD j 0 < 2 := by
  have h := choM_len m it.rank
  exact fun j hj => ((fitW_len (sizeI it.v) m.held (choM m it.rank) h.1 h.2).2 j hj).2
theorem flush_run : ∀ (s : List Qd.It) (m : Ms), m.s = s → (∀ x, x ∈ s → chk x.v.d = 0) → Run s (nms m) (flushL s m).2 (nms (flushL s m).1) ∧ bytesOf (flushL s m).2 + (flushL s m).1.held = m.held
  | [], m, _, _ => ⟨rfl, by simp [flushL, bytesOf]⟩
  | it :: r, m, hs, hc => by
    by_cases hgo : sizeI it.v * ((waysF m it).length : Int) ≤ m.held
    · have hfl : flushL (it :: r) m = ((flushL r (goF m it r).1).1, (goF m it r).2 ++ (flushL r (goF m it r).1).2) := by rw [flushL, if_pos hgo]
      have hgs : (goF m it r).1.s = r := by unfold goF; rw [stA_s]
      obtain ⟨h1, h2⟩ := flush_run r (goF m it r).1 hgs (fun x hx => hc x (.tail _ hx))
      obtain ⟨g1, g2, g3⟩ := stA_run (s := it :: r) (it := it) List.mem_cons_self (hc it List.mem_cons_self) { takeM m (sizeI it.v * ((waysF m it).length : Int)) with s := r } (waysF m it) (waysF m it).length (Nat.le_refl _) (ways_lt m it)
      rw [hfl]
      refine ⟨Run.app g1 (Run.mono (fun x hx => .tail _ hx) h1), ?_⟩
      have g4 : bytesOf (goF m it r).2 = sizeI it.v * ((waysF m it).length : Int) := g2
      have g5 : (goF m it r).1.held = m.held - sizeI it.v * ((waysF m it).length : Int) := g3
      rw [bytes_app]
      simp only
      omega
    · have hfl : flushL (it :: r) m = ({ m with hold := m.hold + 1 }, []) := by rw [flushL, if_neg hgo]
      rw [hfl]
      exact ⟨rfl, by simp [bytesOf]⟩
/-- What does not change. -/
def fix3 (m : Ms) : Nat × Int × Int := (m.rt, m.burst, m.room)
theorem fix_set (m : Ms) (i : Nat) (p : Pa) : fix3 (m.setW i p) = fix3 m := by
  have h := setW_same m i p
  unfold fix3
  rw [h.1, h.2.1, h.2.2.2.2.2.1]
theorem fix_stA (m : Ms) (x : Qd.Dv) (l : List Nat) : ∀ n, fix3 (stA m x l n).1 = fix3 m
  | 0 => rfl
  | n + 1 => by
    show fix3 (stM (stA m x l n).1 _) = fix3 m
    rw [show fix3 (stM (stA m x l n).1 (l.getD n 0)) = fix3 (stA m x l n).1 from fix_set _ _ _, fix_stA m x l n]
theorem fix_flush : ∀ (s : List Qd.It) (m : Ms), fix3 (flushL s m).1 = fix3 m
  | [], m => rfl
  | it :: r, m => by
    rw [flushL]
    split
    · rw [show fix3 ((flushL r (goF m it r).1).1, (goF m it r).2 ++ (flushL r (goF m it r).1).2).1 = fix3 (flushL r (goF m it r).1).1 from rfl, fix_flush r (goF m it r).1]
      unfold goF
      rw [fix_stA]
      rfl
    · rfl
theorem fix_tick1 (m : Ms) (i : Nat) : fix3 (tick1 m i).1 = fix3 m := by
  unfold tick1
  split
  · show fix3 (stM (takeM (m.setW i (tickP (m.way i)).1) 33) i) = fix3 m
    rw [show fix3 (stM (takeM (m.setW i (tickP (m.way i)).1) 33) i) = fix3 (takeM (m.setW i (tickP (m.way i)).1) 33) from fix_set _ _ _]
    exact fix_set _ _ _
  · exact fix_set _ _ _
theorem fix_tick (m : Ms) : fix3 (tickM m).1 = fix3 m := by
  show fix3 (tick1 (tick1 (tick0 m) 0).1 1).1 = fix3 m
  rw [fix_tick1, fix_tick1]
  rfl
/-- The budget: a flush, a tick. -/
theorem budget_flush {m : Ms} {bytes B : Int} (hc : ∀ x, x ∈ m.s → chk x.v.d = 0) (h : m.held + bytes ≤ B) : (flushM m).1.held + (bytes + bytesOf (flushM m).2) ≤ B := by
  have h2 := (flush_run m.s m rfl hc).2
  have e : flushM m = flushL m.s m := rfl
  rw [e]
  omega
theorem tickP_next (p : Pa) : (tickP p).1.next = p.next := by
  unfold tickP
  (repeat' split) <;> rfl
theorem heardP_next (p : Pa) (n : Nat) : (heardP p n).1.next = p.next := by
  unfold heardP
  split <;> rfl
theorem nms_set {m : Ms} {i : Nat} {p : Pa} (h : p.next = (m.way i).next) : nms (m.setW i p) = nms m := by
  unfold nms Ms.setW Ms.way at *
  split
  · rename_i h0
    rw [if_pos h0] at h
    simp [h]
  · rename_i h0
    rw [if_neg h0] at h
    simp [h]
theorem chk_keep {M m : Ms} {i : Nat} (hi : i < 2) : chk (stD M i (keepD m)).d = 0 := by
  refine chk_st hi ?_
  unfold chk
  have hf : formB (keepD m).d = true := by
    unfold formB
    apply decide_eq_true
    simp [formP, keepD, Qd.dg0]
  rw [if_neg (by simp [keepD]), if_neg (by rw [hf]; simp [keepD, Qd.dg0])]
theorem tick1_run (s : List Qd.It) (m : Ms) {i : Nat} (hi : i < 2) : Run s (nms m) (tick1 m i).2 (nms (tick1 m i).1) ∧ bytesOf (tick1 m i).2 + (tick1 m i).1.held = m.held := by
  have hn := nms_set (m := m) (i := i) (p := (tickP (m.way i)).1) (tickP_next _)
  have hh : (m.setW i (tickP (m.way i)).1).held = m.held := (setW_same _ _ _).2.2.1
  unfold tick1
  split
  · refine ⟨⟨⟨hi, rfl, ?_, chk_keep hi, .inr ⟨rfl, rfl, rfl⟩⟩, ?_⟩, ?_⟩
    · rw [← hn]
      exact nxt_way _ _
    · show bump (nms m) i = _
      rw [nms_st, ← hn]
      rfl
    · show sizeI (keepD m) + 0 + (stM (takeM (m.setW i (tickP (m.way i)).1) 33) i).held = m.held
      rw [show (stM (takeM (m.setW i (tickP (m.way i)).1) 33) i).held = (m.setW i (tickP (m.way i)).1).held - 33 from (setW_same _ _ _).2.2.1, hh]
      show (33 : Int) + ((0 : Nat) : Int) + 0 + (m.held - 33) = m.held
      push_cast
      omega
  · exact ⟨hn.symm, by show 0 + (m.setW i (tickP (m.way i)).1).held = m.held; rw [hh]; omega⟩
theorem tick_run (s : List Qd.It) (m : Ms) : Run s (nms m) (tickM m).2 (nms (tickM m).1) ∧ bytesOf (tickM m).2 + (tickM m).1.held = heldT m.rt m.burst m.held := by
  obtain ⟨a1, a2⟩ := tick1_run s (tick0 m) (i := 0) (by omega)
  obtain ⟨b1, b2⟩ := tick1_run s (tick1 (tick0 m) 0).1 (i := 1) (by omega)
  have e1 : (tickM m).2 = (tick1 (tick0 m) 0).2 ++ (tick1 (tick1 (tick0 m) 0).1 1).2 := rfl
  have e2 : (tickM m).1 = (tick1 (tick1 (tick0 m) 0).1 1).1 := rfl
  rw [e1, e2, bytes_app]
  have h0 : (tick0 m).held = heldT m.rt m.burst m.held := rfl
  exact ⟨Run.app a1 b1, by omega⟩
theorem budget_tick {m : Ms} {bytes B : Int} (h : m.held + bytes ≤ B) : (tickM m).1.held + (bytes + bytesOf (tickM m).2) ≤ B + (m.rt : Int) := by
  have h2 := (tick_run [] m).2
  have h3 : heldT m.rt m.burst m.held ≤ m.held + (m.rt : Int) := by unfold heldT; omega
  omega
theorem Ok.mono2 {m : Ms} {k t k2 t2 : Int} (o : Ok m k t) (hk : k ≤ k2) (ht : t ≤ t2) : Ok m k2 t2 :=
  ⟨o.p0.mono hk ht, o.p1.mono hk ht, o.rt, o.burst, o.held, o.spent, o.full, o.room, ⟨o.turns.1, by have := o.turns; omega⟩, o.len, o.sess, o.now, ⟨o.drop.1, by have := o.drop; omega⟩, ⟨o.hold.1, by have := o.hold; omega⟩, o.its⟩
theorem Run.dat {w : World} {s : List Qd.It} (hs : ∀ it, it ∈ s → Bts w it.v.p it.v.d.data.length it.v.c it.v.d.data) : ∀ {l : List (Nat × Qd.Dv)} {a b : Nat × Nat}, Run s a l b → ∀ y, y ∈ l → Bts w y.2.p y.2.d.data.length y.2.c y.2.d.data
  | [], _, _, _, y, hy => by simp at hy
  | z :: l, a, b, h, y, hy => by
    rcases List.mem_cons.1 hy with rfl | hy
    · rcases h.1.2.2.2.2 with ⟨it, h1, h2, h3, h4⟩ | ⟨h2, h3, h4⟩
      · rw [h2, h3, h4]; exact hs it h1
      · rw [h2, h3, h4]
        exact ⟨rfl, Nat.le_refl _, by unfold maxLen; omega, fun _ => rfl, fun j hj => by simp at hj⟩
    · exact Run.dat hs h.2 y hy
end Go.Proofs.YtgdofgckjkmhjaaGreat.Mp
namespace Go.Proofs.YtgdofgckjkmhjaaGreat
open Go Go.ChangeShapes Go.WideShapes Go.ChangeAt Go.RowKit Go.Deep
section
variable {H : Type} {enc : TypeId × Value → H} {P : Program} {w : World} {base : Nat} {spare : Nat → Bool} {held : Bool}
/-- The cells cs read as something of type t. -/
def Rd (enc : TypeId × Value → H) (P : Program) (w : World) (base : Nat) (spare : Nat → Bool) (held : Bool) (t : TypeId) (cs : List Value) : Prop := ∃ fuel x, DataW.trod enc P w base spare held fuel t cs = some x
theorem Rd.field {t : TypeId} {cs : List Value} {fs : Array Field} (h : Rd enc P w base spare held t cs) (ht : P.underlying t = some (.struct fs)) (i : Nat) (f : Field) (hf : fs[i]? = some f) : Rd enc P w base spare held f.type ((cs.drop f.offset).take (P.cellsOf f.type)) := by
  obtain ⟨fuel, x, h⟩ := h
  obtain ⟨xs, n, _, _, _, hlen, hall⟩ := DataW.trod_struct ht h
  have hi : i < fs.size := by
    rcases Nat.lt_or_ge i fs.size with g | g
    · exact g
    · simp [Array.getElem?_eq_none g] at hf
  exact ⟨n, xs[i]'(by omega), by rw [hall i f hf]; simp [hlen, hi]⟩
theorem Rd.elem {t e : TypeId} {cs : List Value} {n : Nat} (h : Rd enc P w base spare held t cs) (ht : P.underlying t = some (.array n e)) (i : Nat) (hi : i < n) : Rd enc P w base spare held e ((cs.drop (i * P.cellsOf e)).take (P.cellsOf e)) := by
  obtain ⟨fuel, x, h⟩ := h
  obtain ⟨xs, m, _, _, _, hlen, hall⟩ := DataW.trod_array ht h
  exact ⟨m, xs[i]'(by omega), by rw [hall i hi]; simp [hlen, hi]⟩
theorem Rd.len {t : TypeId} {cs : List Value} {fs : Array Field} (h : Rd enc P w base spare held t cs) (ht : P.underlying t = some (.struct fs)) : cs.length = P.cellsOf t := by
  obtain ⟨fuel, x, h⟩ := h
  obtain ⟨xs, n, _, _, hl, _⟩ := DataW.trod_struct ht h
  exact hl
theorem Rd.int {t : TypeId} {k : IntKind} {cs : List Value} (h : Rd enc P w base spare held t cs) (ht : P.underlying t = some (.int k)) : ∃ n, cs = [.int k n] ∧ (Lit.int k n).wf = true := by
  obtain ⟨fuel, x, h⟩ := h
  obtain ⟨n, h1, _, h2⟩ := DataW.trod_int ht h
  exact ⟨n, h1, h2⟩
theorem at_of {cs : List Value} {k : Nat} {v : Value} (h : (cs.drop k).take 1 = [v]) : cs[k]? = some v := by
  have : ((cs.drop k).take 1)[0]? = some v := by rw [h]; rfl
  rw [List.getElem?_take_of_lt (by omega), List.getElem?_drop] at this
  simpa using this
theorem at_in {cs : List Value} {o s k : Nat} {v : Value} (h : ((cs.drop o).take s)[k]? = some v) : cs[o + k]? = some v := by
  rcases Nat.lt_or_ge k s with g | g
  · rw [List.getElem?_take_of_lt g, List.getElem?_drop] at h; exact h
  · rw [List.getElem?_eq_none (by simp; omega)] at h; simp at h
end
end Go.Proofs.YtgdofgckjkmhjaaGreat
namespace Go.Proofs.YtgdofgckjkmhjaaGreat
open Go Go.ChangeShapes Go.WideShapes Go.ChangeAt Go.RowKit Go.Deep
theorem rows_of {α : Type} [Inhabited α] {H : Type} {enc : TypeId × Value → H} {P : Program} {w : World} {base : Nat} {held : Bool} {spare : Nat → Bool} {fuel : Nat} {v : Value} {x : DataW H × List MemPlace} {t e : TypeId} (k : Nat) (hk : 0 < k) (hc : P.cellsOf e = k) (ht : P.underlying t = some (.slice e))
    (f : α → List Value) (p : α → Prop) (hf : ∀ y, (f y).length = k) (hel : ∀ es, Rd enc P w base spare held e es → ∃ y, p y ∧ es = f y)
    (h : DataW.trod enc P w base spare held fuel t [v] = some x) :
    ∃ a c, ∃ xs : List α, v = .slice a xs.length c ∧ (∀ (i : Nat) y, xs[i]? = some y → ∃ g o, a = some ⟨g, o, none⟩ ∧ g < w.heap.size ∧ ∀ j u, (f y)[j]? = some u → w.cell? ⟨g, o + i * k + j, none⟩ = some u) ∧ ∀ y ∈ xs, p y := by
  rcases open_slice ht h with ⟨h1, _⟩ | ⟨a, len, cap, m, n, D, Pl, h1, hb, hl, hm, hmm, _, hall⟩
  · exact ⟨none, 0, [], by simpa using h1, fun i x hx => by simp at hx, fun x hx => by simp at hx⟩
  · have hle : len ≤ m := by rw [hmm]; split <;> omega
    have hel2 : ∀ i, i < len → ∃ y : α, p y ∧ w.cells? base (a.add (i * k)) k = some (f y) := by
      intro i hi
      obtain ⟨cs, h2, h3⟩ := hall i (by omega)
      rw [hc] at h2
      obtain ⟨y, hy1, hy2⟩ := hel cs ⟨n, _, h3⟩
      exact ⟨y, hy1, by rw [h2, hy2]⟩
    obtain ⟨g, hg⟩ := choose_lt hel2
    refine ⟨some a, cap, tab len g, by rw [tab_len]; simpa using h1, fun i y hy => ?_, fun y hy => ?_⟩
    · have hi : i < len := by
        have := (List.getElem?_eq_some_iff.1 hy).1
        rwa [tab_len] at this
      rw [tab_get hi] at hy
      simp only [Option.some.injEq] at hy
      subst hy
      have get0 : ∀ y, ∃ u, (f y)[0]? = some u := fun y => ⟨_, List.getElem?_eq_getElem (by rw [hf]; exact hk)⟩
      have hs : a.spot = none := by
        obtain ⟨h2, h3⟩ := hg 0 (by omega)
        obtain ⟨_, _, h4⟩ := World.cells?_some h3
        have h5 := h4 0 hk
        obtain ⟨u, hu⟩ := get0 (g 0)
        rw [hu] at h5
        have h6 := World.cell?_spot h5
        simpa [Addr.add] using h6
      obtain ⟨b, off, spot⟩ := a
      simp at hs
      subst hs
      obtain ⟨h2, h3⟩ := hg i hi
      obtain ⟨_, _, h4⟩ := World.cells?_some h3
      have key : ∀ j v, (f (g i))[j]? = some v → w.cell? ⟨b, off + i * k + j, none⟩ = some v := by
        intro j v hv
        have hj : j < k := by
          have := (List.getElem?_eq_some_iff.1 hv).1
          rw [hf] at this
          exact this
        have h5 := h4 j hj
        rw [add_add] at h5
        rw [hv] at h5
        unfold Addr.add at h5
        split at h5
        · rename_i h0
          rw [← h5]
          congr 2
          omega
        · rw [← h5]
          congr 2
          show off + i * k + j = off + (i * k + j)
          omega
      refine ⟨b, off, rfl, ?_, key⟩
      obtain ⟨u, hu⟩ := get0 (g i)
      exact World.block_lt_of_cell? _ _ (key 0 u hu)
    · obtain ⟨i, hi⟩ := List.mem_iff_getElem?.1 hy
      have hil : i < len := by
        have := (List.getElem?_eq_some_iff.1 hi).1
        rwa [tab_len] at this
      rw [tab_get hil] at hi
      simp only [Option.some.injEq] at hi
      rw [← hi]
      exact (hg i hil).1
end Go.Proofs.YtgdofgckjkmhjaaGreat
namespace Go.Proofs.YtgdofgckjkmhjaaGreat.Mp
open Go Go.RowKit
open Qd (dvl dv0 dvl_one infoDg step_of)
/-- A list of numbers, as it lies. -/
structure IntR (w : World) (a : Option Addr) (l : List Int) : Prop where
  at_ : ∀ (i : Nat) x, l[i]? = some x → ∃ g o, a = some ⟨g, o, none⟩ ∧ g < w.heap.size ∧ w.cell? ⟨g, o + i, none⟩ = some (.int .i64 x)
theorem IntR.kept {w w' : World} {a : Option Addr} {l : List Int} (h : IntR w a l) (hk : Kept [] w w') : IntR w' a l :=
  ⟨fun i x hx => by
    obtain ⟨g, o, h1, h2, h3⟩ := h.at_ i x hx
    exact ⟨g, o, h1, Nat.lt_of_lt_of_le h2 hk.size, by rw [hk.cell h2 (by simp)]; exact h3⟩⟩
/-- An item of the law's: which one it is. -/
def Itm (rk : List Int) (n : Nat) (x : Qd.It) : Prop := ∃ j : Nat, j < n ∧ x.rank = rk.getD j 0 ∧ x.turn = (j : Int) + 1 ∧ x.v.d.a = j
def kI (rk : List Int) (j : Nat) : Qd.It := ⟨rk.getD j 0, (j : Int) + 1, dv0⟩
structure Fi (rk : List Int) (i : Nat) (m : Ms) : Prop where
  ok : Ok m i 0
  room : m.room = 256
  turns : m.turns = i
  len : m.s.length = i
  its : ∀ x, x ∈ m.s → Itm rk i x
def kdA (i : Nat) : Dg := { Qd.dg0 with kind := 6, a := i }
theorem builtA (i : Nat) : Tryz.prog.built 50 [(0, .int .i64 6), (5, .int .u32 (i : Int))] = some (dgl (kdA i) none 0).toArray := by kernel_rfl
theorem chkA (m : Ms) (i : Nat) : chk (pushD m (kdA i)) = 0 := by
  unfold chk
  rw [if_neg (by simp [pushD, kdA]), if_neg (by
    have : formB (pushD m (kdA i)) = true := by
      unfold formB
      apply decide_eq_true
      simp [formP, pushD, kdA, Qd.dg0]
    rw [this]
    simp [pushD])]
theorem fi_push {rk : List Int} {i : Nat} {m : Ms} {x : Qd.Dv} (h : Fi rk i m) (hi : i < 100) (hx : x.d = pushD m (kdA i)) : Fi rk (i + 1) { pushM m (rk.getD i 0) x with drop := if goneB m.room m.s then m.drop + 1 else m.drop } := by
  refine ⟨by have := push_ok (rank := rk.getD i 0) h.ok (chkA m i) hx; push_cast; exact this, h.room, by show m.turns + 1 = _; rw [h.turns]; push_cast; rfl, ?_, fun y hy => ?_⟩
  · show (pushS m.room m.s ⟨rk.getD i 0, m.turns + 1, x⟩).length = i + 1
    unfold pushS
    have hl := Qd.ins_len m.s ⟨rk.getD i 0, m.turns + 1, x⟩
    rw [if_neg (by rw [h.room, hl, h.len]; push_cast; omega), hl, h.len]
  · rcases pushS_mem hy with rfl | h2
    · exact ⟨i, by omega, rfl, by show m.turns + 1 = _; rw [h.turns], by show x.d.a = i; rw [hx]; rfl⟩
    · obtain ⟨j, h3, h4⟩ := h.its y h2
      exact ⟨j, by omega, h4⟩
/-- Behind what went last: what waits. -/
def Last (rk : List Int) (n : Nat) (la : Int) (s : List Qd.It) : Prop := la = -1 ∨ ∃ j : Nat, j < n ∧ la = j ∧ ∀ y, y ∈ s → Qd.lt (kI rk j) y
structure Fo (rk : List Int) (n : Nat) (m : Ms) (t la : Int) : Prop where
  ok : Ok m n t
  its : ∀ x, x ∈ m.s → Itm rk n x
  last : Last rk n la m.s
/-- Among those that go. -/
def Mid (rk : List Int) (n : Nat) (its rest : List Qd.It) (i : Nat) (la : Int) : Prop :=
  la = -1 ∨ ∃ j : Nat, j < n ∧ la = j ∧ (∀ (k : Nat) x, i ≤ k → its[k]? = some x → (x.rank = rk.getD j 0 ∧ x.turn = (j : Int) + 1) ∨ Qd.lt (kI rk j) x) ∧ ∀ y, y ∈ rest → Qd.lt (kI rk j) y
theorem mid_start {rk : List Int} {n : Nat} {s its rest : List Qd.It} {l : List (Nat × Qd.Dv)} {la : Int} (h : Last rk n la s) (g : Gone s l rest its) : Mid rk n its rest 0 la := by
  rcases h with h | ⟨j, h1, h2, h3⟩
  · exact .inl h
  · exact .inr ⟨j, h1, h2, fun k x _ hx => .inr (h3 x (g.sub x (List.mem_of_getElem? hx))), fun y hy => h3 y (g.rst y hy)⟩
theorem lt_kI {rk : List Int} {j : Nat} {x y : Qd.It} (h1 : x.rank = rk.getD j 0) (h2 : x.turn = (j : Int) + 1) (h : Qd.lt x y) : Qd.lt (kI rk j) y := by
  unfold Qd.lt kI at *
  simp only
  rw [← h1, ← h2]
  exact h
theorem mid_next {rk : List Int} {n j : Nat} {s its rest : List Qd.It} {l : List (Nat × Qd.Dv)} {i : Nat} {x : Qd.It} (g : Gone s l rest its) (hx : its[i]? = some x) (hj : j < n) (h1 : x.rank = rk.getD j 0) (h2 : x.turn = (j : Int) + 1) : Mid rk n its rest (i + 1) (j : Int) := by
  refine .inr ⟨j, hj, rfl, fun k y hk hy => ?_, fun y hy => lt_kI h1 h2 (g.aft x (List.mem_of_getElem? hx) y hy)⟩
  have ho := List.pairwise_iff_getElem.1 g.ord
  obtain ⟨hi, hxe⟩ := List.getElem?_eq_some_iff.1 hx
  obtain ⟨hk2, hye⟩ := List.getElem?_eq_some_iff.1 hy
  have h := ho i k hi hk2 (by omega)
  rw [hxe, hye] at h
  rcases h with rfl | h
  · exact .inl ⟨h1, h2⟩
  · exact .inr (lt_kI h1 h2 h)
theorem mid_end {rk : List Int} {n : Nat} {its rest : List Qd.It} {i : Nat} {la : Int} (h : Mid rk n its rest i la) : Last rk n la rest := by
  rcases h with h | ⟨j, h1, h2, _, h4⟩
  · exact .inl h
  · exact .inr ⟨j, h1, h2, h4⟩
theorem outC_at : ∀ (l : List (Nat × Qd.Dv)) (i : Nat) y, l[i]? = some y → (outC l)[i * 12 + 6]? = some (.int .u32 (y.2.d.a : Int))
  | [], i, y, h => by simp at h
  | z :: l, 0, y, h => by
    simp only [List.getElem?_cons_zero, Option.some.injEq] at h
    subst h
    have e : outC (z :: l) = snt (z.1 : Int) z.2 ++ outC l := by simp [outC]
    rw [e, List.getElem?_append_left (by show 0 * 12 + 6 < 12; omega)]
    rfl
  | z :: l, i + 1, y, h => by
    have e : outC (z :: l) = snt (z.1 : Int) z.2 ++ outC l := by simp [outC]
    have hl : (snt (z.1 : Int) z.2).length = 12 := rfl
    rw [e, List.getElem?_append_right (by rw [hl]; omega), hl, show (i + 1) * 12 + 6 - 12 = i * 12 + 6 by omega]
    exact outC_at l i y (by simpa using h)
theorem own_outA {w : World} {base n c : Nat} {a : Option Addr} {l : List (Nat × Qd.Dv)} (h : w.ownsRow base 85 12 (.slice a n c) n (outC l)) {i : Nat} {y : Nat × Qd.Dv} (hi : i < n) (hy : l[i]? = some y) : ∃ g, a = some ⟨g, 0, none⟩ ∧ w.cell? ⟨g, i * 12 + 6, none⟩ = some (.int .u32 (y.2.d.a : Int)) := by
  rcases h.2 with ⟨_, hn⟩ | ⟨g, cap, cur, he, _, hg, hn, hc, hs, ht⟩
  · omega
  · simp only [Value.slice.injEq] at he
    refine ⟨g, he.1, ?_⟩
    have hB : Blk w g cur.toList 85 := hg
    refine hB.cell ?_
    have h2 : (cur.toList.take (n * 12))[i * 12 + 6]? = (outC l)[i * 12 + 6]? := by rw [ht]
    rw [List.getElem?_take_of_lt (by omega), outC_at l i y hy] at h2
    exact h2
theorem own_fresh {w w' : World} {s b q : Nat} {v v2 : Value} (h : ∀ g, g ∈ own s b q v → w.heap.size ≤ g) (h1 : v2.ownBlock = v.ownBlock ∨ ∃ g, v2.ownBlock = some g ∧ w'.heap.size ≤ g) (h2 : w.heap.size ≤ w'.heap.size) : ∀ g, g ∈ own s b q v2 → w.heap.size ≤ g := by
  intro g hg
  have hf := h g
  simp only [own, List.mem_cons, Option.mem_toList] at hf hg
  rcases hg with h3 | h3 | h3 | h3
  · exact hf (.inl h3)
  · exact hf (.inr (.inl h3))
  · exact hf (.inr (.inr (.inl h3)))
  · rcases h1 with e | ⟨g2, e, hs⟩
    · rw [e] at h3; exact hf (.inr (.inr (.inr h3)))
    · rw [e] at h3
      simp only [Option.some.injEq] at h3
      omega
end Go.Proofs.YtgdofgckjkmhjaaGreat.Mp
namespace Go.Proofs.YtgdofgckjkmhjaaGreat.Mp
open Go Go.RowKit
open Qd (dvl dv0 dvl_one infoDg step_of)
theorem waysF_len (m : Ms) (it : Qd.It) : (waysF m it).length ≤ 2 := by
  have h := choM_len m it.rank
  have h2 := (fitW_len (sizeI it.v) m.held (choM m it.rank) h.1 h.2).1
  unfold waysF
  omega
theorem flush_len : ∀ (s : List Qd.It) (m : Ms), (flushL s m).2.length ≤ 2 * s.length
  | [], m => by simp [flushL]
  | it :: r, m => by
    rw [flushL]
    split
    · have h1 := flush_len r (goF m it r).1
      have h2 : (goF m it r).2.length = (waysF m it).length := by unfold goF; rw [stA_len]
      have h3 := waysF_len m it
      simp only [List.length_append, List.length_cons]
      omega
    · simp
end Go.Proofs.YtgdofgckjkmhjaaGreat.Mp
namespace Go.Proofs.YtgdofgckjkmhjaaGreat.Mp
open Go Go.ChangeShapes Go.WideShapes Go.ChangeAt Go.RowKit Go.Deep
theorem ints_of {H : Type} {enc : TypeId × Value → H} {w : World} {base : Nat} {held : Bool} {spare : Nat → Bool} {fuel : Nat} {v : Value} {x : DataW H × List MemPlace} (h : DataW.trod enc Tryz.prog w base spare held fuel 81 [v] = some x) :
    ∃ a c xs, v = .slice a xs.length c ∧ IntR w a xs := by
  obtain ⟨a, c, xs, h1, h2, _⟩ := rows_of (α := Int) 1 (by omega) (by kernel_rfl) Tryz.underlying81 (fun y => [.int .i64 y]) (fun _ => True) (fun _ => rfl) (fun es he => by obtain ⟨y, hy, _⟩ := he.int Tryz.underlying3; exact ⟨y, trivial, hy⟩) h
  refine ⟨a, c, xs, h1, ⟨fun i x hx => ?_⟩⟩
  obtain ⟨g, o, ha, hg, hc⟩ := h2 i x hx
  exact ⟨g, o, ha, hg, by have := hc 0 _ rfl; simpa using this⟩
theorem szs_of {H : Type} {enc : TypeId × Value → H} {w : World} {base : Nat} {held : Bool} {spare : Nat → Bool} {es : List Value} (he : Rd enc Tryz.prog w base spare held 23 es) : ∃ r b m : Int, es = [.int .i64 r, .int .i64 b, .int .i64 m] := by
  have c3 : Tryz.prog.cellsOf 23 = 3 := by kernel_rfl
  have ci : Tryz.prog.cellsOf 3 = 1 := by kernel_rfl
  have hlen := he.len Tryz.underlying23
  rw [c3] at hlen
  obtain ⟨n0, e0, _⟩ := (he.field Tryz.underlying23 0 _ rfl).int Tryz.underlying3
  obtain ⟨n1, e1, _⟩ := (he.field Tryz.underlying23 1 _ rfl).int Tryz.underlying3
  obtain ⟨n2, e2, _⟩ := (he.field Tryz.underlying23 2 _ rfl).int Tryz.underlying3
  change (es.drop 0).take (Tryz.prog.cellsOf 3) = _ at e0
  change (es.drop 1).take (Tryz.prog.cellsOf 3) = _ at e1
  change (es.drop 2).take (Tryz.prog.cellsOf 3) = _ at e2
  rw [ci] at e0 e1 e2
  have g0 := at_of e0
  have g1 := at_of e1
  have g2 := at_of e2
  refine ⟨n0, n1, n2, ?_⟩
  match es, hlen with
  | [p, q, r], _ =>
    simp only [List.getElem?_cons_zero, List.getElem?_cons_succ, Option.some.injEq] at g0 g1 g2
    rw [g0, g1, g2]
end Go.Proofs.YtgdofgckjkmhjaaGreat.Mp
namespace Go.Proofs.YtgdofgckjkmhjaaGreat.Mp
open Go Go.RowKit
open Qd (dvl dv0 dvl_one infoDg step_of)
def rhd (m : Ms) : List Value := rpc m.p0 ++ rpc m.p1
def rtl (m : Ms) (a : Option Addr) (c : Nat) : List Value := [.int .i64 m.rt, .int .i64 m.burst, .int .i64 m.held, .int .i64 m.spent, .int .i64 m.full, .slice a m.s.length c, .int .i64 m.room, .int .u32 m.sess, .int .u32 m.now, .int .i64 m.drop, .int .i64 m.hold]
def rsd (m : Ms) (a : Option Addr) (c : Nat) : List Value := rhd m ++ rtl m a c
theorem rhd_len (m : Ms) : (rhd m).length = 156 := by simp [rhd, rpc_len]
theorem rsd_len (m : Ms) (a : Option Addr) (c : Nat) : (rsd m a c).length = 167 := by simp [rsd, rhd_len, rtl]
theorem rsd_at (m : Ms) (a : Option Addr) (c k : Nat) : (rsd m a c)[156 + k]? = (rtl m a c)[k]? := by
  unfold rsd
  rw [List.getElem?_append_right (by rw [rhd_len]; omega), rhd_len, Nat.add_sub_cancel_left]
theorem rsd_set (m : Ms) (a : Option Addr) (c k : Nat) (v : Value) : (rsd m a c).set (156 + k) v = rhd m ++ (rtl m a c).set k v := by
  unfold rsd
  rw [List.set_append_right _ _ (by rw [rhd_len]; omega), rhd_len, Nat.add_sub_cancel_left]
theorem rsd_way (m : Ms) (a : Option Addr) (c : Nat) {i : Nat} (hi : i < 2) : Part (rsd m a c) (i * 78) (rpc (m.way i)) := by
  rcases two hi with rfl | rfl
  · have h := Part.sub (xs := rsd m a c) (o := 0) (ys := []) (bs := rpc m.p0) (cs := rpc m.p1 ++ rtl m a c) (by
      have e : [] ++ rpc m.p0 ++ (rpc m.p1 ++ rtl m a c) = rsd m a c := by simp [rsd, rhd]
      rw [e]; exact Part.all _)
    exact h
  · have h := Part.sub (xs := rsd m a c) (o := 0) (ys := rpc m.p0) (bs := rpc m.p1) (cs := rtl m a c) (Part.all _)
    rw [rpc_len] at h
    exact h
theorem rsd_setW (m : Ms) (a : Option Addr) (c : Nat) {i : Nat} (hi : i < 2) (p : Pa) : setAll (rsd m a c) (i * 78) (rpc p) = rsd (m.setW i p) a c := by
  rcases two hi with rfl | rfl
  · have h := setAll_sub (xs := rsd m a c) (o := 0) (ys := []) (bs := rpc m.p0) (bs' := rpc p) (cs := rpc m.p1 ++ rtl m a c) (by
      have e : [] ++ rpc m.p0 ++ (rpc m.p1 ++ rtl m a c) = rsd m a c := by simp [rsd, rhd]
      rw [e]; exact Part.all _) (by rw [rpc_len, rpc_len])
    refine Eq.trans h ?_
    rw [setAll_all _ _ (by simp [rsd_len, rpc_len, rtl])]
    simp [rsd, rhd, Ms.setW, rtl]
  · have h := setAll_sub (xs := rsd m a c) (o := 0) (ys := rpc m.p0) (bs := rpc m.p1) (bs' := rpc p) (cs := rtl m a c) (Part.all _) (by rw [rpc_len, rpc_len])
    rw [rpc_len] at h
    refine Eq.trans h ?_
    rw [setAll_all _ _ (by simp [rsd_len, rpc_len, rtl])]
    simp [rsd, rhd, Ms.setW, rtl]
theorem rsd_bk (m : Ms) (a : Option Addr) (c : Nat) : Part (rsd m a c) 156 (bkc m.rt m.burst m.held m.spent m.full) := by
  have h := Part.sub (xs := rsd m a c) (o := 0) (ys := rhd m) (bs := bkc m.rt m.burst m.held m.spent m.full) (cs := [.slice a m.s.length c, .int .i64 m.room, .int .u32 m.sess, .int .u32 m.now, .int .i64 m.drop, .int .i64 m.hold]) (by
    have e : rhd m ++ bkc m.rt m.burst m.held m.spent m.full ++ [.slice a m.s.length c, .int .i64 m.room, .int .u32 m.sess, .int .u32 m.now, .int .i64 m.drop, .int .i64 m.hold] = rsd m a c := by simp [rsd, rtl, bkc]
    rw [e]; exact Part.all _)
  rw [rhd_len] at h
  exact h
theorem rsd_setB (m : Ms) (a : Option Addr) (c : Nat) (held spent full : Int) : setAll (rsd m a c) 156 (bkc m.rt m.burst held spent full) = rsd { m with held := held, spent := spent, full := full } a c := by
  have h := setAll_sub (xs := rsd m a c) (o := 0) (ys := rhd m) (bs := bkc m.rt m.burst m.held m.spent m.full) (bs' := bkc m.rt m.burst held spent full) (cs := [.slice a m.s.length c, .int .i64 m.room, .int .u32 m.sess, .int .u32 m.now, .int .i64 m.drop, .int .i64 m.hold]) (by
    have e : rhd m ++ bkc m.rt m.burst m.held m.spent m.full ++ [.slice a m.s.length c, .int .i64 m.room, .int .u32 m.sess, .int .u32 m.now, .int .i64 m.drop, .int .i64 m.hold] = rsd m a c := by simp [rsd, rtl, bkc]
    rw [e]; exact Part.all _) rfl
  rw [rhd_len] at h
  refine Eq.trans h ?_
  rw [setAll_all _ _ (by simp [rsd_len, rhd_len, bkc])]
  simp [rsd, rhd, rtl, bkc]
theorem rsd_one (m : Ms) (a : Option Addr) (c : Nat) : ∀ v ∈ rsd m a c, v.oneCell' = true := by
  intro v hv
  simp only [rsd, rhd, rtl, List.mem_append, List.mem_cons, List.not_mem_nil, or_false] at hv
  rcases hv with (h | h) | rfl | rfl | rfl | rfl | rfl | rfl | rfl | rfl | rfl | rfl | rfl
  · exact rpc_one _ v h
  · exact rpc_one _ v h
  all_goals rfl
theorem infoRs : (Tryz.prog.info? 40).map (·.size) = some 167 := by kernel_rfl
theorem infoRs2 (m : Ms) (a : Option Addr) (c : Nat) : (Tryz.prog.info? 40).map (·.size) = some (rsd m a c).length := by rw [rsd_len]; exact infoRs
def ms00 : Ms := ⟨pa0, pa0, 0, 0, 0, 0, 0, 0, 0, [], 0, 0, 0, 0⟩
theorem zeroRS (w : World) : (zeroValue 40).run Tryz.prog w = .ok (.agg (rsd ms00 none 0).toArray) w := by kernel_rfl
theorem zeroRS' : ∃ Z : Array Value, Z.toList = rsd ms00 none 0 ∧ ∀ w, (zeroValue 40).run Tryz.prog w = .ok (.agg Z) w := ⟨_, rfl, zeroRS⟩
theorem rsd_eq {m m2 : Ms} {a a2 : Option Addr} {c c2 : Nat} {l : List Value} (h1 : rhd m2 = rhd m) (h2 : rtl m2 a2 c2 = l) : rhd m ++ l = rsd m2 a2 c2 := by rw [rsd, h1, h2]
/-- A parameter, a result. -/
theorem rs_start (m : Ms) (a : Option Addr) (c : Nat) (w : World) (Z : Array Value) (hZ : Z.toList = rsd ms00 none 0) :
    Blk ((w.alloc (.cells (rsd m a c).toArray 40)).alloc (.cells Z 40)) w.heap.size (rsd m a c) 40 ∧
    Blk ((w.alloc (.cells (rsd m a c).toArray 40)).alloc (.cells Z 40)) (w.heap.size + 1) (rsd ms00 none 0) 40 ∧
    Kept [] w ((w.alloc (.cells (rsd m a c).toArray 40)).alloc (.cells Z 40)) := by
  refine ⟨(Blk.new w (rsd m a c) 40).alloc _, ?_, ((Kept.refl _ _).alloc _).alloc _⟩
  have h := Blk.new' (w.alloc (.cells (rsd m a c).toArray 40)) Z 40
  rw [hZ, show (w.alloc (.cells (rsd m a c).toArray 40)).heap.size = w.heap.size + 1 by simp] at h
  exact h
/-- The document's items, as they lie. -/
structure RL (w : World) (a : Option Addr) (c : Nat) (l : List Qd.It) : Prop where
  at_ : ∀ (i : Nat) y, l[i]? = some y → ∃ g o xs, a = some ⟨g, o, none⟩ ∧ Blk w g xs 121 ∧ Part xs (o + i * 12) (snt y.rank y.v)
  le : l.length ≤ c
  top : c ≤ maxLen
  nil : a = none → c = 0
theorem RL.kept {w w' : World} {a : Option Addr} {c : Nat} {l : List Qd.It} (h : RL w a c l) (hk : Kept [] w w') : RL w' a c l :=
  ⟨fun i y hy => by
    obtain ⟨g, o, xs, h1, h2, h3⟩ := h.at_ i y hy
    exact ⟨g, o, xs, h1, hk.blk h2 (by simp), h3⟩, h.le, h.top, h.nil⟩
theorem RL.empty (w : World) : RL w none 0 [] := ⟨fun i y hy => by simp at hy, Nat.le_refl _, Nat.zero_le _, fun _ => rfl⟩
theorem RL.range {w : World} {a : Option Addr} {c : Nat} {l : List Qd.It} (h : RL w a c l) {i : Nat} {y : Qd.It} (hy : l[i]? = some y) : ∃ g o, a = some ⟨g, o, none⟩ ∧ w.rangeAt g (o + i * 12) (snt y.rank y.v) := by
  obtain ⟨g, o, xs, h1, h2, h3⟩ := h.at_ i y hy
  exact ⟨g, o, h1, h3.range h2⟩
def itC (l : List Qd.It) : List Value := l.flatMap fun y => snt y.rank y.v
theorem itC_len (l : List Qd.It) : (itC l).length = l.length * 12 := by
  induction l with
  | nil => rfl
  | cons y l ih =>
    have e : itC (y :: l) = snt y.rank y.v ++ itC l := by simp [itC]
    have hl : (snt y.rank y.v).length = 12 := rfl
    rw [e, List.length_append, hl, ih, List.length_cons]
    omega
theorem itC_app (a b : List Qd.It) : itC (a ++ b) = itC a ++ itC b := by simp [itC]
theorem itC_part : ∀ (l : List Qd.It) (i : Nat) y, l[i]? = some y → Part (itC l) (i * 12) (snt y.rank y.v)
  | [], i, y, h => by simp at h
  | z :: l, 0, y, h => by
    simp only [List.getElem?_cons_zero, Option.some.injEq] at h
    subst h
    have h2 := Part.sub (xs := itC (z :: l)) (o := 0) (ys := []) (bs := snt z.rank z.v) (cs := itC l) (by
      have e : [] ++ snt z.rank z.v ++ itC l = itC (z :: l) := by simp [itC]
      rw [e]; exact Part.all _)
    exact h2
  | z :: l, i + 1, y, h => by
    have h1 := itC_part l i y (by simpa using h)
    have e : itC (z :: l) = snt z.rank z.v ++ itC l := by simp [itC]
    have hl : (snt z.rank z.v).length = 12 := rfl
    refine ⟨by rw [e, List.length_append, hl]; have := h1.1; omega, fun j hj => ?_⟩
    rw [e, List.getElem?_append_right (by rw [hl]; omega), hl, show (i + 1) * 12 + j - 12 = i * 12 + j by omega]
    exact h1.2 j hj
theorem itC_one (l : List Qd.It) : ∀ v ∈ itC l, v.oneCell' = true := by
  intro u hu
  simp only [itC, List.mem_flatMap] at hu
  obtain ⟨y, _, h⟩ := hu
  exact snt_one _ _ u h
/-- A row of the call's own is such a list. -/
theorem RL.own {w : World} {base : Nat} {v : Value} {l : List Qd.It} {a : Option Addr} {c : Nat} (h : w.ownsRow base 121 12 v l.length (itC l)) (hv : v = .slice a l.length c) : RL w a c l := by
  rcases h.2 with ⟨h1, hn⟩ | ⟨g, cap, cur, he, _, hg, hn, hc, hs, ht⟩
  · rw [hv] at h1
    simp only [Value.slice.injEq] at h1
    obtain ⟨rfl, _, rfl⟩ := h1
    have hl : l = [] := List.eq_nil_of_length_eq_zero hn
    subst hl
    exact RL.empty w
  · rw [hv] at he
    simp only [Value.slice.injEq] at he
    obtain ⟨rfl, _, rfl⟩ := he
    refine ⟨fun i y hy => ⟨g, 0, cur.toList, rfl, hg, ?_⟩, hn, hc, fun h => by simp at h⟩
    have hp := itC_part l i y hy
    refine ⟨?_, fun j hj => ?_⟩
    · have h1 := hp.1
      rw [← ht, List.length_take] at h1
      omega
    · have h1 := hp.1
      have hil := hp.2 j hj
      rw [← hil, ← ht, List.getElem?_take_of_lt (by rw [itC_len] at h1; have hsn : (snt y.rank y.v).length = 12 := rfl; omega), Nat.zero_add]
theorem infoRi3 : (Tryz.prog.info? 121).map (fun i => (i.zero, i.size, i.bytes)) = some (some (.agg (snt 0 Qd.dv0).toArray), 12, 96) := by kernel_rfl
/-- The data of items. -/
def RD (w : World) (l : List Qd.It) : Prop := ∀ y, y ∈ l → Bts w y.v.p y.v.d.data.length y.v.c y.v.d.data
theorem RD.kept {w w' : World} {l : List Qd.It} (h : RD w l) (hk : Kept [] w w') : RD w' l := fun y hy => (h y hy).kept hk
/-- A list without its first one. -/
theorem RL.tail {w : World} {g o c : Nat} {y : Qd.It} {l : List Qd.It} (h : RL w (some ⟨g, o, none⟩) c (y :: l)) : RL w (some ⟨g, o + 12, none⟩) (c - 1) l :=
  ⟨fun i z hz => by
    obtain ⟨g2, o2, xs, h1, h2, h3⟩ := h.at_ (i + 1) z (by simpa using hz)
    simp only [Option.some.injEq, Addr.mk.injEq, and_true] at h1
    obtain ⟨rfl, rfl⟩ := h1
    refine ⟨g, o + 12, xs, rfl, h2, ?_⟩
    rw [show o + 12 + i * 12 = o + (i + 1) * 12 by omega]
    exact h3, by have := h.le; simp at this; omega, by have := h.top; omega, fun h => by simp at h⟩
theorem RL.none {w : World} {g o c : Nat} (hc : c ≤ maxLen) : RL w (some ⟨g, o, Option.none⟩) c [] := ⟨fun i y hy => by simp at hy, Nat.zero_le _, hc, fun h => by simp at h⟩
/-- A list's beginning. -/
theorem RL.take {w : World} {a : Option Addr} {c n : Nat} {l : List Qd.It} (h : RL w a c l) : RL w a c (l.take n) :=
  ⟨fun i y hy => h.at_ i y (by
    rw [List.getElem?_take] at hy
    split at hy
    · exact hy
    · cases hy), by have := h.le; simp; omega, h.top, h.nil⟩
/-- What a push does so far. -/
def PuI (l : List Qd.It) (x : Qd.It) (i : Nat) (b : Bool) (out : List Qd.It) : Prop :=
  Qd.insS l x = out ++ (if b then l.drop i else Qd.insS (l.drop i) x) ∧ out.length = i + (if b then 1 else 0)
theorem PuI.zero (l : List Qd.It) (x : Qd.It) : PuI l x 0 false [] := ⟨by simp, rfl⟩
theorem drop_at {l : List Qd.It} {i : Nat} {y : Qd.It} (hy : l[i]? = some y) : l.drop i = y :: l.drop (i + 1) := by
  obtain ⟨h1, h2⟩ := List.getElem?_eq_some_iff.1 hy
  rw [List.drop_eq_getElem_cons h1, h2]
theorem PuI.goes {l : List Qd.It} {x y : Qd.It} {i : Nat} {out : List Qd.It} (h : PuI l x i true out) (hy : l[i]? = some y) : PuI l x (i + 1) true (out ++ [y]) := by
  obtain ⟨h1, h2⟩ := h
  refine ⟨?_, by simp only [List.length_append, if_true] at *; simp; omega⟩
  rw [h1, if_pos rfl, if_pos rfl, drop_at hy]
  simp
theorem PuI.less {l : List Qd.It} {x y : Qd.It} {i : Nat} {out : List Qd.It} (h : PuI l x i false out) (hy : l[i]? = some y) (hx : ¬ x.rank < y.rank) : PuI l x (i + 1) false (out ++ [y]) := by
  obtain ⟨h1, h2⟩ := h
  refine ⟨?_, by simp at *; omega⟩
  rw [h1, if_neg (by simp), if_neg (by simp), drop_at hy, Qd.insS, if_neg hx]
  simp
theorem PuI.puts {l : List Qd.It} {x y : Qd.It} {i : Nat} {out : List Qd.It} (h : PuI l x i false out) (hy : l[i]? = some y) (hx : x.rank < y.rank) : PuI l x (i + 1) true (out ++ [x] ++ [y]) := by
  obtain ⟨h1, h2⟩ := h
  refine ⟨?_, by simp at *; omega⟩
  rw [h1, if_neg (by simp), if_pos rfl, drop_at hy, Qd.insS, if_pos hx]
  simp
theorem PuI.last {l : List Qd.It} {x : Qd.It} {out : List Qd.It} (h : PuI l x l.length true out) : out = Qd.insS l x := by
  rw [h.1]; simp
theorem PuI.last2 {l : List Qd.It} {x : Qd.It} {out : List Qd.It} (h : PuI l x l.length false out) : out ++ [x] = Qd.insS l x := by
  rw [h.1]; simp [Qd.insS]
end Go.Proofs.YtgdofgckjkmhjaaGreat.Mp
namespace Go.Proofs.YtgdofgckjkmhjaaGreat.Mp
open Go Go.RowKit
open Qd (dvl dv0 dvl_one infoDg step_of)
theorem hold_id {x : Int} (h1 : -9000000000000000000 ≤ x) (h2 : x ≤ 9000000000000000000) : Mp.hold x = x := by
  unfold Mp.hold
  rw [if_neg (by omega), if_neg (by omega)]
/-- What goes, if it may. -/
def RTaP (w : World) (m : Ms) (a : Option Addr) (c : Nat) (n : Int) (e : Ending) (w' : World) : Prop :=
  e = .returned (.tuple #[.agg (rsd (if n ≤ m.held then takeM m n else m) a c).toArray, .bool (decide (n ≤ m.held))]) ∧ Kept [] w w'
set_option maxRecDepth 100000 in
set_option maxHeartbeats 3200000 in
theorem rtake_m (m : Ms) (a : Option Addr) (c : Nat) (n : Int) (w : World) (h0 : 0 ≤ n) (h1 : 0 ≤ m.held ∧ m.held ≤ 16777216) (h2 : 0 ≤ m.spent ∧ m.spent ≤ 1000000000000000) :
    Calls Tryz.prog 58 #[.agg (rsd m a c).toArray, .int .i64 n] w (RTaP w m a c n) := by
  obtain ⟨Z, hZ, hz⟩ := zeroRS'
  have S0 := hx (rs_start m a c w Z hZ)
  clear hZ
  go_enter Tryz.func58, Tryz.ntmps58
  go_upto_region 1 with fail
  clear hz
  generalize (w.alloc (.cells (rsd m a c).toArray 40)).alloc (.cells Z 40) = W0 at *
  have ch := S0.out.1.cell (i := 158) (v := .int .i64 m.held) (rsd_at m a c 2)
  have cs := S0.out.1.cell (i := 159) (v := .int .i64 m.spent) (rsd_at m a c 3)
  have hf := S0.out.1.free
  by_cases h : n ≤ m.held
  · have d0 : decide (m.held < n) = false := decide_eq_false (by omega)
    have H := hx h
    have e1 : takeM m n = { m with held := m.held - n, spent := m.spent + n, full := m.full } := by unfold takeM; rw [hold_id (by omega) (by omega)]
    have E1 := hx e1
    clear e1
    go_upto_region 5 with fail
    generalize hw1 : World.setCell (World.setCell W0 _ _) _ _ = W1
    have B1 := hx (show Blk W1 w.heap.size (rsd (takeM m n) a c) 40 from by
      rw [← hw1, E1.out]
      have hb := (S0.out.1.set 158 (.int .i64 (m.held - n))).set 159 (.int .i64 (m.spent + n))
      rw [show (158 : Nat) = 156 + 2 from rfl, show (159 : Nat) = 156 + 3 from rfl, rsd_set] at hb
      rw [List.set_append_right _ _ (by rw [rhd_len]; omega), rhd_len] at hb
      exact hb)
    have R1 := hx (show Blk W1 (w.heap.size + 1) (rsd ms00 none 0) 40 from by
      rw [← hw1]
      exact (S0.out.2.1.set_ne (by simp) _).set_ne (by simp) _)
    have K1 := hx (show Kept [] w W1 from by
      rw [← hw1]
      exact (S0.out.2.2.setCell (.inr (by simp)) _).setCell (.inr (by simp)) _)
    clear hw1 ch cs hf S0 d0 h
    go_wp2_with (first
      | refine load_blk rfl 40 (.tmp 2) rfl w.heap.size rfl 40 _ _ B1.out Tryz.underlying40 rfl (infoRs2 _ _ _) ?_
      | (refine store_blk rfl 40 (.tmp 4) (.tmp 26) rfl (w.heap.size + 1) rfl 40 _ _ rfl R1.out (by rw [rsd_len, rsd_len]) (infoRs2 _ _ _) (rsd_one _ _ _) ?_; intro w5 hb5 hk5))
    exact bodyPost_ret (Qd.ret_blk2 rfl _ (w.heap.size + 1) _ _ _ _ rfl rfl hb5 Tryz.underlying40 rfl (infoRs2 _ _ _)) rfl ⟨by rw [if_pos H.out, decide_eq_true H.out]; rfl, Kept.behind K1.out hk5 (by omega)⟩
  · have d0 : decide (m.held < n) = true := decide_eq_true (by omega)
    have H := hx h
    clear h
    go_wp2_with (first
      | refine load_blk rfl 40 (.tmp 2) rfl w.heap.size rfl 40 _ _ S0.out.1 Tryz.underlying40 rfl (infoRs2 _ _ _) ?_
      | (refine store_blk rfl 40 (.tmp 4) (.tmp 11) rfl (w.heap.size + 1) rfl 40 _ _ rfl S0.out.2.1 (by rw [rsd_len, rsd_len]) (infoRs2 _ _ _) (rsd_one _ _ _) ?_; intro w5 hb5 hk5))
    exact bodyPost_ret (Qd.ret_blk2 rfl _ (w.heap.size + 1) _ _ _ _ rfl rfl hb5 Tryz.underlying40 rfl (infoRs2 _ _ _)) rfl ⟨by rw [if_neg (by have := H.out; omega), decide_eq_false (by have := H.out; omega)]; rfl, Kept.behind S0.out.2.2 hk5 (by omega)⟩
end Go.Proofs.YtgdofgckjkmhjaaGreat.Mp
