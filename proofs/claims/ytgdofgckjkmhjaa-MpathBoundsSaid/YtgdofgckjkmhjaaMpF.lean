/- What a flush does, in plain terms. The sender's Flush. -/
import Derived.Test.YtgdofgckjkmhjaaMpK
namespace Go.Proofs.Ytgdofgckjkmhjaa.Mp
open Go Go.RowKit
open Qd (dvl dv0 dvl_one infoDg step_of)
/-- As many ways as there are bytes for. -/
def fitW (n held : Int) (l : List Nat) : List Nat := if l.length = 2 ∧ ¬ n * 2 ≤ held then l.take 1 else l
/-- A datagram goes by the first ways. -/
def stA (m : Ms) (x : Qd.Dv) (l : List Nat) : Nat → Ms × List (Nat × Qd.Dv)
  | 0 => (m, [])
  | j + 1 => (stM (stA m x l j).1 (l.getD j 0), (stA m x l j).2 ++ [(l.getD j 0, stD (stA m x l j).1 (l.getD j 0) x)])
def sizeI (x : Qd.Dv) : Int := 33 + (x.d.data.length : Int)
def waysF (m : Ms) (it : Qd.It) : List Nat := fitW (sizeI it.v) m.held (choM m it.rank)
def goF (m : Ms) (it : Qd.It) (r : List Qd.It) : Ms × List (Nat × Qd.Dv) := stA { takeM m (sizeI it.v * ((waysF m it).length : Int)) with s := r } it.v (waysF m it) (waysF m it).length
def flushL : List Qd.It → Ms → Ms × List (Nat × Qd.Dv)
  | [], m => (m, [])
  | it :: r, m => if sizeI it.v * ((waysF m it).length : Int) ≤ m.held then ((flushL r (goF m it r).1).1, (goF m it r).2 ++ (flushL r (goF m it r).1).2) else ({ m with hold := m.hold + 1 }, [])
def flushM (m : Ms) : Ms × List (Nat × Qd.Dv) := flushL m.s m
theorem choM_len (m : Ms) (rank : Int) : ((choM m rank).length = 1 ∨ (choM m rank).length = 2) ∧ ∀ x, x ∈ choM m rank → x < 2 := by
  unfold choM
  (repeat' split) <;> simp
theorem fitW_len (n held : Int) (l : List Nat) (h : l.length = 1 ∨ l.length = 2) (hx : ∀ x, x ∈ l → x < 2) : ((fitW n held l).length = 1 ∨ (fitW n held l).length = 2) ∧ ∀ j, j < (fitW n held l).length → (fitW n held l).getD j 0 = l.getD j 0 ∧ (fitW n held l).getD j 0 < 2 := by
  have hg : ∀ j, j < l.length → l.getD j 0 < 2 := fun j hj => by
    rw [List.getD_eq_getElem?_getD, List.getElem?_eq_getElem hj]
    exact hx _ (List.getElem_mem hj)
  unfold fitW
  split
  · rename_i h2
    refine ⟨.inl (by rw [List.length_take]; omega), fun j hj => ?_⟩
    rw [List.length_take] at hj
    obtain rfl : j = 0 := by omega
    have e : (l.take 1).getD 0 0 = l.getD 0 0 := by
      rw [List.getD_eq_getElem?_getD, List.getD_eq_getElem?_getD, List.getElem?_take_of_lt (by omega)]
    rw [e]
    exact ⟨rfl, hg 0 (by omega)⟩
  · exact ⟨h, fun j hj => ⟨rfl, hg j hj⟩⟩
theorem stA_len (m : Ms) (x : Qd.Dv) (l : List Nat) : ∀ j, (stA m x l j).2.length = j
  | 0 => rfl
  | j + 1 => by
    show ((stA m x l j).2 ++ [_]).length = j + 1
    rw [List.length_append, stA_len m x l j]
    rfl
theorem stA_s (m : Ms) (x : Qd.Dv) (l : List Nat) : ∀ j, (stA m x l j).1.s = m.s
  | 0 => rfl
  | j + 1 => by
    show (stM (stA m x l j).1 _).s = m.s
    rw [stM_s, stA_s m x l j]
theorem stA_ok {m : Ms} {k t : Int} (o : Ok m k t) (x : Qd.Dv) (l : List Nat) : ∀ j, Ok (stA m x l j).1 k t
  | 0 => o
  | j + 1 => (stA_ok o x l j).stamp _
theorem Ok.popped {m : Ms} {k t : Int} (o : Ok m k t) {it : Qd.It} {r : List Qd.It} (h : m.s = it :: r) : Ok { m with s := r } k t :=
  ⟨o.p0, o.p1, o.rt, o.burst, o.held, o.spent, o.full, o.room, o.turns, by
    have h1 := o.len
    rw [h] at h1
    show (r.length : Int) ≤ m.room
    simp at h1
    omega, o.sess, o.now, o.drop, o.hold, fun x hx => o.its x (by rw [h]; exact .tail _ hx)⟩
/-- The first one has gone. -/
theorem Sr.popped {w w' : World} {s b q : Nat} {v v' : Value} {m : Ms} {it : Qd.It} {l : List Qd.It} (r : Sr w s b q v m) (hs : m.s = it :: l) (hk : Kept (q :: v.ownBlock.toList) w w') (hv : v'.ownBlock = v.ownBlock)
    (hq : ∃ h, Qd.Qs w' q v' m.room m.turns h ∧ Qd.Rp h m.turns l) : Sr w' s b q v' { m with s := l } := by
  have n := r.ne
  refine ⟨hk.blk r.hs (fun h => ?_), hk.blk r.hb (fun h => ?_), hq, fun x hx => (r.dat x (by rw [hs]; exact .tail _ hx)).next hk (fun g hg => .inl (by simp only [own, List.mem_cons] at *; exact .inr (.inr hg))) (fun g hg => .inl (by unfold own at *; rw [hv] at hg; exact hg))⟩
  · simp only [List.mem_cons, Option.mem_toList] at h
    rcases h with h | h
    · exact n.sq h
    · exact n.vs h
  · simp only [List.mem_cons, Option.mem_toList] at h
    rcases h with h | h
    · exact n.bq h
    · exact n.vb h
/-- The queue's Pop, by what waits. -/
theorem qpop (q : Nat) (v : Value) (room turns : Int) (h l : List Qd.It) (it : Qd.It) (W : World) (qs : Qd.Qs W q v room turns h) (rp : Qd.Rp h turns (it :: l)) (hb : h.length ≤ 1000000) :
    Calls Try.prog 21 #[.pointer (some ⟨q, 0, none⟩)] W fun e w' => (∃ ret, e = .returned ret) ∧ ∃ v', (∃ h2, Qd.Qs w' q v' room turns h2 ∧ Qd.Rp h2 turns l) ∧ Kept (q :: v.ownBlock.toList) W w' ∧ v'.ownBlock = v.ownBlock := by
  have hl := rp.len
  obtain ⟨_, hp⟩ := rp.pop
  refine (Qd.pop_some q v room turns h W qs (by simp at hl; omega) hb).mono ?_
  rintro e w' ⟨he, v', hq, hk, hv⟩
  exact ⟨⟨_, he⟩, v', ⟨_, hq, hp⟩, hk, hv⟩
theorem peek_head {h l : List Qd.It} {it : Qd.It} {T : Int} (rp : Qd.Rp h T (it :: l)) : Qd.peekV h = (it.v, it.rank, true) := by
  obtain ⟨h0, _⟩ := rp.pop
  have hl := rp.len
  cases h with
  | nil => simp at hl
  | cons x h =>
    have : x = it := h0
    subst this
    rfl
theorem peek_none {h : List Qd.It} {T : Int} (rp : Qd.Rp h T []) : Qd.peekV h = (dv0, 0, false) := by
  have hl := rp.len
  cases h with
  | nil => rfl
  | cons x h => simp at hl
/-- How many wait, as memory tells. -/
def waitN (q : Nat) (w : World) : Nat := match w.cell? ⟨q, 2, none⟩ with | some (.slice _ n _) => n | _ => 0
theorem Sr.waitN {w : World} {s b q : Nat} {v : Value} {m : Ms} (r : Sr w s b q v m) : Mp.waitN q w = m.s.length := by
  obtain ⟨h, hq, rp⟩ := r.hq
  obtain ⟨a, c, rfl⟩ := Qd.own_slice hq.own
  have hc := hq.hq.cell (i := 2) rfl
  unfold Mp.waitN
  rw [hc]
  exact rp.len.symm
end Go.Proofs.Ytgdofgckjkmhjaa.Mp
namespace Go.Proofs.Ytgdofgckjkmhjaa.Mp
open Go Go.RowKit
open Qd (dvl dv0 dvl_one infoDg step_of)
theorem blk_grown {w w' : World} {g : Nat} {xs : List Value} {T : TypeId} {row : Option Nat} (hb : Blk w g xs T) (hg : w.grownBy w' row) (hn : row ≠ some g) : Blk w' g xs T :=
  ((Kept.refl row.toList w).grown hg (fun k e => .inl (by simp [e]))).blk hb (by simpa using hn)
def lenOf : Value → Nat | .slice _ n _ => n | _ => 0
/-- What a flush tells. -/
def FlushP (w : World) (s b q : Nat) (v : Value) (k t : Int) (r : Ms × List (Nat × Qd.Dv)) (e : Ending) (w' : World) : Prop :=
  ∃ u v2, e = .returned u ∧ w'.ownsRow w.heap.size 38 12 u r.2.length (outC r.2) ∧ Sr w' s b q v2 r.1 ∧ Kept (own s b q v) w w' ∧ v2.ownBlock = v.ownBlock ∧ Ok r.1 k (t + 1)
/-- Where a flush stands. -/
structure FlI (m : Ms) (k t : Int) (v : Value) (m1 : Ms) (v1 : Value) (l : List (Nat × Qd.Dv)) : Prop where
  ok : Ok m1 k t
  vo : v1.ownBlock = v.ownBlock
  sub : ∀ x, x ∈ m1.s → x ∈ m.s
  len : l.length + 2 * m1.s.length ≤ 600
  fin : flushM m = ((flushL m1.s m1).1, l ++ (flushL m1.s m1).2)
set_option maxRecDepth 100000 in
set_option maxHeartbeats 12800000 in
theorem flush_m (s b q : Nat) (v : Value) (m : Ms) (k t : Int) (w : World) (r : Sr w s b q v m) (o : Ok m k t) (hk : 65 * k ≤ 1000000) (ht : t ≤ 1000000) :
    Calls Try.prog 8 #[.pointer (some ⟨s, 0, none⟩)] w (FlushP w s b q v k t (flushM m)) := by
  have HR := hx r
  have HSL := hx r.own_lt
  have HN := hx r.ne
  have HDT := hx (fun (x : Qd.It) (hx2 : x ∈ m.s) (g o : Nat) (hp : x.v.p = some (⟨g, o, none⟩ : Addr)) (hd : x.v.d.data ≠ []) => (r.dat x hx2).lt hp hd)
  have HI0 := hx (show FlI m k t v m v [] from ⟨o, rfl, fun _ h => h, by have h1 := o.len; have h2 := o.room; simp; omega, by rw [List.nil_append]; rfl⟩)
  clear r o
  go_enter Try.func8, Try.ntmps8
  go_wp2_with fail
  go_loopw [3] (fun s3 wr => ∃ (m1 : Ms) (v1 : Value) (l : List (Nat × Qd.Dv)), Hx (wr.ownsRow w.heap.size 38 12 s3 l.length (outC l)) ∧ Hx (Sr wr s b q v1 m1) ∧ Hx (Kept (own s b q v) w wr) ∧ Hx (FlI m k t v m1 v1 l)) (fun _ wr => waitN q wr)
  case atStart => exact ⟨m, v, [], hx (World.ownsRow_nil _ _ _ _), HR, hx (Kept.refl _ _), HI0⟩
  case round =>
    obtain ⟨m1, v1, l, HROW, HS, HK, HI⟩ := hrel
    have HWN := hx HS.out.waitN
    have cq := HS.out.hs.cell (i := 31) (v := .pointer (some ⟨q, 0, none⟩)) rfl
    obtain ⟨hh, hqs, hrp⟩ := HS.out.hq
    have HPK := hx (Qd.peek_any q v1 m1.room m1.turns hh wr hqs)
    cases hs : m1.s with
    | nil =>
      rw [hs] at hrp
      rw [peek_none hrp] at HPK
      have HFN := hx (show flushM m = (m1, l) by rw [HI.out.fin, hs]; simp [flushL])
      clear hqs hrp hs
      go_wp2_with (first
        | (go_at_call 17; refine HPK.out.mono ?_; rintro e w2 ⟨rfl, hk2⟩; have K2 := hx hk2; clear hk2)
        | (refine store_blk rfl 34 (.tmp 4) (.tmp 17) rfl w2.heap.size rfl 34 _ (dvl dv0) rfl (Blk.new w2 (dvl dv0) 34) rfl infoDg (dvl_one _) ?_; intro w3 hb3 hk3; have KW := hx (((Kept.refl [] w2).alloc _).trans hk3 (ds := []) (fun _ h => h) (fun x h => by simp at h; subst h; exact .inr (Nat.le_refl _))); clear hb3 hk3))
      go_ret
      have kk := K2.out.trans0 KW.out
      refine ⟨_, v1, rfl, ?_, ?_, HK.out.trans0 kk, HI.out.vo, ?_⟩
      · rw [HFN.out]
        exact Qd.own_kept3 HROW.out (fun g cs _ hg => kk.block g (Array.getElem?_eq_some_iff.1 hg).1 (by simp))
      · rw [HFN.out]
        exact HS.out.kept kk
      · rw [HFN.out]
        have h := HI.out.ok.setW (i := 0) (p := m1.p0) (u := t + 1) (by omega) (HI.out.ok.p0.mono (Int.le_refl _) (by omega))
        exact h
    | cons it rs =>
      rw [hs] at hrp HWN
      rw [peek_head hrp] at HPK
      have HIT := hx (HI.out.ok.its it (by rw [hs]; simp))
      have HSE := hx hs
      have HQ := hx (And.intro hqs hrp)
      obtain ⟨nn, hnn⟩ : ∃ nn, sizeI it.v = nn := ⟨_, rfl⟩
      have hn1 : 33 ≤ nn ∧ nn ≤ 1233 := by rw [← hnn]; unfold sizeI; have := HIT.out.2.1; omega
      have HSZ := hx (fun W => show Calls Try.prog 12 #[.agg (dvl it.v).toArray] W (fun e w' => e = .returned (.int .i64 nn) ∧ Kept [] W w') from by
        have h := size_any it.v W (by have := HIT.out.2.1; omega)
        rw [← hnn]
        exact h)
      have HCH := hx (fun (W : World) (hk2 : Kept [] wr W) => choose_m s b q v1 m1 k t it.rank W (HS.out.kept hk2) HI.out.ok hk)
      obtain ⟨l0, hl0⟩ : ∃ l0, choM m1 it.rank = l0 := ⟨_, rfl⟩
      have HCL := hx (choM_len m1 it.rank)
      rw [hl0] at HCH HCL
      have HWF := hx (show waysF m1 it = fitW nn m1.held l0 by unfold waysF; rw [hnn, hl0])
      have HNN := hx hnn
      have hhb := HI.out.ok.held
      have hbb := HI.out.ok.burst
      clear hqs hrp hs hnn hl0
      go_upto_block 2 with (first
        | (go_at_call 17; refine HPK.out.mono ?_; rintro e w2 ⟨rfl, hk2⟩; have K2 := hx hk2; clear hk2 cq)
        | (refine store_blk rfl 34 (.tmp 4) (.tmp 17) rfl w2.heap.size rfl 34 _ (dvl it.v) rfl (Blk.new w2 (dvl dv0) 34) rfl infoDg (dvl_one _) ?_; intro w3 hb3 hk3; have B3 := hx hb3; have K3 := hx (K2.out.trans0 (((Kept.refl [] w2).alloc _).trans hk3 (ds := []) (fun _ h => h) (fun x h => by simp at h; subst h; exact .inr (Nat.le_refl _)))); clear hb3 hk3)
        | (refine load_blk rfl 34 (.tmp 4) rfl w2.heap.size rfl 34 _ _ B3.out Try.underlying34 rfl infoDg ?_)
        | (go_at_call 12; refine (HSZ.out _).mono ?_; rintro e w4 ⟨rfl, hk4⟩; have K4 := hx (K3.out.trans0 hk4); have B4 := hx (hk4.blk B3.out (by simp)); clear hk4)
        | (go_at_call 18; refine (HCH.out _ K4.out).mono ?_; rintro e w5 ⟨u, rfl, hu, hk5, hf5⟩; have K5 := hx (K4.out.trans0 hk5); have B5 := hx (hk5.blk B4.out (by simp)); have U5 := hx hu; have F5 := hx hf5; clear hk5 hu hf5))
      obtain ⟨g, c, xs, hu, hlc, hcm, hbx, hcl⟩ := U5.out.at_
      subst hu
      have HCE := hx hcl
      have HBX := hx hbx
      have HGF := hx (F5.out g rfl)
      have hc0 : 1 ≤ c := by have := HCL.out.1; omega
      have hcI : (1 : Int) ≤ (c : Int) := by omega
      have HLC := hx hlc
      have HMB := hx (fun (n : Int) (W : World) (hk2 : Kept [] wr W) => may_any b _ _ _ _ _ n W ((HS.out.kept hk2).hb))
      have R5 := hx (HS.out.kept K5.out)
      clear U5 F5 hcl hlc hcm hbx HPK HCH HSZ K2 K3 K4 B3 B4
      go_cut [8] from 28 to 47 (fun s8 wx => s8 = .slice (some ⟨g, 0, none⟩) (waysF m1 it).length c ∧ wx = w5)
      case first =>
        have cb := R5.out.hs.cell (i := 30) (v := .pointer (some ⟨b, 0, none⟩)) rfl
        have hw2 : IntKind.i64.wrap (nn * 2) = nn * 2 := by rw [IntKind.wrap_i64]; omega
        go_wp2_with fail
        go_loopw [8] (fun s8 w6 => ∃ j : Nat, s8 = .slice (some ⟨g, 0, none⟩) j c ∧ Hx (j = l0.length ∨ (j = 1 ∧ l0.length = 2 ∧ ¬ nn * 2 ≤ m1.held)) ∧ w6 = w5) (fun s8 _ => lenOf s8)
        case atStart => exact ⟨l0.length, rfl, hx (.inl rfl), rfl⟩
        case round =>
          obtain ⟨j, rfl, HJ, rfl⟩ := hrel
          have hj : j = 1 ∨ j = 2 := by have h1 := HCL.out.1; have h2 := HJ.out; omega
          rcases hj with rfl | rfl
          · have HE := hx (show (waysF m1 it).length = 1 by
              rw [HWF.out]
              unfold fitW
              have h2 := HJ.out
              split
              · rw [List.length_take]; omega
              · rename_i h3
                omega)
            go_wp2_with fail
            go_meet
            exact ⟨by rw [HE.out], rfl⟩
          · have h2 : l0.length = 2 := by have := HJ.out; omega
            have HL2 := hx h2
            clear h2
            by_cases hm : nn * 2 ≤ m1.held
            · have HE := hx (show (waysF m1 it).length = 2 by rw [HWF.out]; unfold fitW; rw [if_neg (by omega)]; exact HL2.out)
              have HM := hx (show Calls Try.prog 19 #[.pointer (some ⟨b, 0, none⟩), .int .i64 (nn * 2)] wr (fun e w' => e = .returned (.bool true) ∧ wr = w') from by
                have h := HMB.out (nn * 2) wr K5.out
                rw [decide_eq_true (by omega)] at h
                exact h)
              clear hm
              go_wp2_with (go_at_call 19; refine HM.out.mono ?_; rintro e w7 ⟨rfl, rfl⟩)
              go_meet
              exact ⟨by rw [HE.out], rfl⟩
            · have HM := hx (show Calls Try.prog 19 #[.pointer (some ⟨b, 0, none⟩), .int .i64 (nn * 2)] wr (fun e w' => e = .returned (.bool false) ∧ wr = w') from by
                have h := HMB.out (nn * 2) wr K5.out
                rw [decide_eq_false (by omega)] at h
                exact h)
              have HNM := hx hm
              clear hm
              go_wp2_with (go_at_call 19; refine HM.out.mono ?_; rintro e w7 ⟨rfl, rfl⟩)
              go_roundw
              case rel => exact ⟨1, rfl, hx (.inr ⟨rfl, HL2.out, by have := HNM.out; omega⟩), by first | rfl | trivial⟩
              case measure => simp [lenOf]
      case rest =>
        obtain ⟨rfl, rfl⟩ := hcut
        obtain ⟨lam, hlam⟩ : ∃ lam, (waysF m1 it).length = lam := ⟨_, rfl⟩
        have hwl0 := fitW_len nn m1.held l0 HCL.out.1 HCL.out.2
        rw [← HWF.out, hlam] at hwl0
        rw [hlam]
        have hl12 := hwl0.1
        have HWG := hx hwl0.2
        have HLAM := hx hlam
        have HLE := hx (show lam ≤ l0.length by
          rw [← hlam, HWF.out]
          unfold fitW
          split
          · rw [List.length_take]; omega
          · exact Nat.le_refl _)
        have hwl : IntKind.i64.wrap (nn * (lam : Int)) = nn * (lam : Int) := by
          rcases hl12 with h | h
          · rw [h, IntKind.wrap_i64]; push_cast; omega
          · rw [h, IntKind.wrap_i64]; push_cast; omega
        have hpos : 0 ≤ nn * (lam : Int) := by
          rcases hl12 with h | h
          · rw [h]; push_cast; omega
          · rw [h]; push_cast; omega
        have hfl : flushL (it :: rs) m1 = if nn * (lam : Int) ≤ m1.held then ((flushL rs (goF m1 it rs).1).1, (goF m1 it rs).2 ++ (flushL rs (goF m1 it rs).1).2) else ({ m1 with hold := m1.hold + 1 }, []) := by
          rw [flushL, HNN.out, hlam]
        have HFL := hx hfl
        have HGO := hx (show goF m1 it rs = stA { takeM m1 (nn * (lam : Int)) with s := rs } it.v (waysF m1 it) lam by unfold goF; rw [HNN.out, hlam])
        have cb := R5.out.hs.cell (i := 30) (v := .pointer (some ⟨b, 0, none⟩)) rfl
        clear hwl0 hlam hfl HWF
        by_cases hgo : nn * (lam : Int) ≤ m1.held
        · have HTK := hx (btake_yes b _ _ _ _ _ (nn * (lam : Int)) wc R5.out.hb hpos hgo (by omega) HI.out.ok.spent)
          have HF1 := hx (show flushM m = ((flushL rs (goF m1 it rs).1).1, l ++ ((goF m1 it rs).2 ++ (flushL rs (goF m1 it rs).1).2)) by rw [HI.out.fin, HSE.out, HFL.out, if_pos hgo])
          have OKT := hx ((HI.out.ok.take (nn * (lam : Int)) hpos hgo).popped (r := rs) (it := it) HSE.out)
          go_upto_region 12 with (go_at_call 20; refine HTK.out.mono ?_; rintro e w6 ⟨rfl, hb6, hk6⟩; have R6 := hx (show Sr w6 s b q v1 (takeM m1 (nn * (lam : Int))) from R5.out.bucket _ _ _ hk6 hb6); have K6 := hx hk6; clear hb6 hk6 cb)
          clear HTK HFL
          have cq := R6.out.hs.cell (i := 31) (v := .pointer (some ⟨q, 0, none⟩)) rfl
          obtain ⟨h6, hqs6, hrp6⟩ := R6.out.hq
          have hrp7 : Qd.Rp h6 m1.turns (it :: rs) := by rw [← HSE.out]; exact hrp6
          have HPOP := hx (qpop q v1 m1.room m1.turns h6 rs it w6 hqs6 hrp7 (by have h1 := hrp7.len; have h2 := HI.out.ok.len; have h3 := HI.out.ok.room; rw [HSE.out] at h2; omega))
          have HQ6 := hx hqs6
          clear hqs6 hrp6 hrp7
          obtain ⟨M1, hM1⟩ : ∃ M1, ({ takeM m1 (nn * (lam : Int)) with s := rs } : Ms) = M1 := ⟨_, rfl⟩
          rw [hM1] at OKT HGO
          have HM1 := hx (show M1.s = rs by rw [← hM1])
          have hne1 := blk_ne R5.out.hb HBX.out (by decide)
          have hne2 := blk_ne R5.out.hb B5.out (by decide)
          have HB6 := hx (K6.out.blk HBX.out (by simp; omega))
          have B6 := hx (K6.out.blk B5.out (by simp; omega))
          have hq1 := blk_ne HQ6.out.hq HB6.out (by decide)
          have hq2 := blk_ne HQ6.out.hq B6.out (by decide)
          have ho1 := own_ne HQ6.out.own HB6.out (by decide)
          have ho2 := own_ne HQ6.out.own B6.out (by decide)
          have HNQ := hx (show g ∉ q :: v1.ownBlock.toList ∧ w2.heap.size ∉ q :: v1.ownBlock.toList by
            constructor
            · intro h
              simp only [List.mem_cons, Option.mem_toList] at h
              rcases h with h | h
              · exact hq1 h.symm
              · exact ho1 h
            · intro h
              simp only [List.mem_cons, Option.mem_toList] at h
              rcases h with h | h
              · exact hq2 h.symm
              · exact ho2 h)
          have HKS := hx (show Kept [b] wr w6 from (K5.out.mono (by simp)).trans K6.out (fun _ h => h) (fun _ h => .inl h))
          clear hne1 hne2 hq1 hq2 ho1 ho2
          go_wp2_with (go_at_call 21; refine HPOP.out.mono ?_; rintro e w7 ⟨⟨ret, rfl⟩, v7, hq7, hk7, hv7⟩; have R7 := hx (show Sr w7 s b q v7 M1 from by rw [← hM1]; exact R6.out.popped (l := rs) (it := it) HSE.out hk7 hv7 hq7); have K7 := hx hk7; have V7 := hx hv7; clear hk7 hq7 hv7 cq)
          have HB7 := hx (And.intro (K7.out.blk HB6.out HNQ.out.1) (K7.out.blk B6.out HNQ.out.2))
          have hsub : ∀ x, x ∈ q :: v1.ownBlock.toList → x ∈ own s b q v := fun x hx => by rw [HI.out.vo] at hx; simp only [own, List.mem_cons] at *; exact .inr (.inr hx)
          have KW7 := hx (show Kept (own s b q v) w w7 from (HK.out.trans HKS.out (fun _ h => h) (fun x hx => .inl (by simp at hx; subst hx; simp [own]))).trans K7.out (fun _ h => h) (fun x hx => .inl (hsub x hx)))
          have HRW7 := hx (show w7.ownsRow w.heap.size 38 12 _ l.length (outC l) from Qd.own_kept3 (Qd.own_kept3 HROW.out (fun g cs hv hg => HKS.out.block g (Array.getElem?_eq_some_iff.1 hg).1 (by have h1 := (HROW.out.lt g hv).1; have h2 := HSL.out b (by simp [own]); simp; omega))) (fun g cs hv hg => K7.out.block g (Array.getElem?_eq_some_iff.1 hg).1 (fun hm => by have h1 := (HROW.out.lt g hv).1; have h2 := HSL.out g (hsub g hm); omega)))
          clear hM1 hsub
          go_loopw [73, 3] (fun s73 s3 w9 => ∃ j : Nat, s73 = .int .i64 (j : Int) ∧ j ≤ lam ∧ Hx (w9.ownsRow w.heap.size 38 12 s3 (l ++ (stA M1 it.v (waysF m1 it) j).2).length (outC (l ++ (stA M1 it.v (waysF m1 it) j).2))) ∧ Hx (Sr w9 s b q v7 (stA M1 it.v (waysF m1 it) j).1) ∧ Hx (Kept (own s b q v) w w9) ∧ Hx (Blk w9 g xs 3 ∧ Blk w9 w2.heap.size (dvl it.v) 34)) (fun s73 _ _ => lam - (intOf s73).toNat)
          case atStart => exact ⟨0, rfl, Nat.zero_le _, by show Hx (w7.ownsRow _ _ _ _ (l ++ []).length (outC (l ++ []))); rw [List.append_nil]; exact HRW7, R7, KW7, HB7⟩
          case round =>
            obtain ⟨j, rfl, hj, HRJ, HSJ, HKJ, HBJ⟩ := hrel
            by_cases hjl : j < lam
            · have hji : (j : Int) < (lam : Int) := by omega
              obtain ⟨x, hxx⟩ : ∃ x, (waysF m1 it).getD j 0 = x := ⟨_, rfl⟩
              have hxl := HWG.out j hjl
              rw [hxx] at hxl
              have cx : wr.cell? ⟨g, j, none⟩ = some (.int .i64 (x : Int)) := by
                have h := HBJ.out.1.cell (HCE.out j (by have := HLE.out; omega))
                rw [← hxl.1] at h
                exact h
              have HX2 := hx hxl.2
              have OKJ := hx (stA_ok OKT.out it.v (waysF m1 it) j)
              have HSS := hx (stA_s M1 it.v (waysF m1 it) j)
              have HLJ := hx (stA_len M1 it.v (waysF m1 it) j)
              obtain ⟨MJ, hMJ⟩ : ∃ MJ, (stA M1 it.v (waysF m1 it) j).1 = MJ := ⟨_, rfl⟩
              obtain ⟨LJ, hLJ⟩ : ∃ LJ, (stA M1 it.v (waysF m1 it) j).2 = LJ := ⟨_, rfl⟩
              have HNJ := hx (show (stA M1 it.v (waysF m1 it) (j + 1)).1 = stM MJ x ∧ (stA M1 it.v (waysF m1 it) (j + 1)).2 = LJ ++ [(x, stD MJ x it.v)] by rw [← hMJ, ← hLJ, ← hxx]; exact ⟨rfl, rfl⟩)
              rw [hMJ] at HSJ OKJ HSS
              rw [hLJ] at HRJ HLJ
              have HST := hx (stamp_m s b q x v7 MJ it.v wr HSJ.out hxl.2 (OKJ.out.way x).next)
              have HOE := hx (show own s b q v7 = own s b q v by unfold own; rw [V7.out, HI.out.vo])
              have HJL := hx hjl
              have HKR := hx (fun (W : World) (hk3 : Kept [s] wr W) => show W.ownsRow w.heap.size 38 12 _ (l ++ LJ).length (outC (l ++ LJ)) from Qd.own_kept3 HRJ.out (fun g3 cs hv hg => hk3.block g3 (Array.getElem?_eq_some_iff.1 hg).1 (by have h1 := (HRJ.out.lt g3 hv).1; have h2 := HSL.out s (by simp [own]); simp; omega)))
              have HSG := hx (show s ≠ g ∧ s ≠ w2.heap.size from ⟨blk_ne HSJ.out.hs HBJ.out.1 (by decide), blk_ne HSJ.out.hs HBJ.out.2 (by decide)⟩)
              have HLL := hx (show (l ++ LJ).length ≤ 1000000 by rw [List.length_append, HLJ.out]; have := HI.out.len; omega)
              clear hMJ hLJ hxx hxl hjl hj
              go_wp2_with (first
                | (refine load_blk rfl 34 (.tmp 4) rfl w2.heap.size rfl 34 _ _ HBJ.out.2 Try.underlying34 rfl infoDg ?_)
                | (go_at_call 22; refine HST.out.mono ?_; rintro e wa ⟨rfl, hra, hka⟩; have RA := hx hra; have KA := hx hka; clear hra hka)
                | (refine wpList_bs1 rfl 35 38 (.tmp 81) rfl 12 96 _ infoSn3 (snt (x : Int) (stD MJ x it.v)) rfl rfl (by omega) (by omega) Try.underlying35 ?_; intro wb hbb2 hkb; have BB := hx hbb2; have KB := hx (show Kept [s] wr wb from KA.out.trans0 hkb); have RB := hx (RA.out.kept hkb); clear hbb2 hkb)
                | (refine out_app rfl (.tmp 77) (.tmp 82) rfl w.heap.size _ (l ++ LJ) rfl (HKR.out _ KB.out) wa.heap.size (x, stD MJ x it.v) rfl BB.out HLL.out (Nat.le_trans HKJ.out.size KB.out.size) ?_; intro vd wd hod hgd; have HOD := hx hod; have HGD := hx hgd; clear hod hgd))
              have hro := HKR.out _ KB.out
              have RD := RB.out.row hro HGD.out (fun g3 hg3 => HSL.out g3 (by rw [← HOE.out]; exact hg3)) (fun y hy => HDT.out y (HI.out.sub y (by rw [HSE.out]; rw [stM_s, HSS.out, HM1.out] at hy; exact .tail _ hy)))
              go_roundw
              case rel =>
                refine ⟨j + 1, by push_cast; rfl, by have := HJL.out; omega, ?_, ?_, ?_, ?_⟩
                · rw [HNJ.out.2, ← List.append_assoc]
                  exact HOD
                · rw [HNJ.out.1]
                  exact hx RD
                · exact hx ((HKJ.out.trans KB.out (fun _ h => h) (fun g3 hg3 => .inl (by simp at hg3; subst hg3; simp [own]))).grown HGD.out (fun g3 hg3 => .inr (hro.lt g3 hg3).1))
                · have b1 := KB.out.blk HBJ.out.1 (by have := HSG.out.1; simp; omega)
                  have b2 := KB.out.blk HBJ.out.2 (by have := HSG.out.2; simp; omega)
                  exact hx ⟨blk_grown b1 HGD.out (own_ne hro b1 (by decide)), blk_grown b2 HGD.out (own_ne hro b2 (by decide))⟩
              case measure =>
                simp only [intOf]
                have := HJL.out
                omega
            · obtain rfl : j = lam := by omega
              have HGS := hx (stA_s M1 it.v (waysF m1 it) j)
              have OKG := hx (stA_ok OKT.out it.v (waysF m1 it) j)
              have HGL := hx (stA_len M1 it.v (waysF m1 it) j)
              rw [← HGO.out] at HSJ HRJ HGS OKG HGL
              have HWN2 := hx HSJ.out.waitN
              clear hjl hj
              go_wp2_with fail
              go_roundw
              case rel =>
                refine ⟨(goF m1 it rs).1, v7, l ++ (goF m1 it rs).2, HRJ, HSJ, HKJ, hx ⟨OKG.out, by rw [V7.out, HI.out.vo], fun y hy => HI.out.sub y (by rw [HSE.out]; rw [HGS.out, HM1.out] at hy; exact .tail _ hy), ?_, ?_⟩⟩
                · have h1 := HI.out.len
                  rw [HSE.out] at h1
                  rw [HGS.out, HM1.out, List.length_append, HGL.out]
                  simp at h1
                  omega
                · rw [HF1.out, HGS.out, HM1.out, List.append_assoc]
              case measure =>
                rw [HWN2.out, HGS.out, HM1.out, HWN.out]
                simp
        · have HTK := hx (btake_no b _ _ _ _ _ (nn * (lam : Int)) wc R5.out.hb (by omega))
          have HF1 := hx (show flushM m = ({ m1 with hold := m1.hold + 1 }, l) by rw [HI.out.fin, HSE.out, HFL.out, if_neg hgo]; simp [HSE.out])
          have ho1 := HI.out.ok.hold
          go_upto_region 10 with (go_at_call 20; refine HTK.out.mono ?_; rintro e w6 ⟨rfl, rfl⟩)
          have ch := R5.out.hs.cell (i := 35) (v := .int .i64 m1.hold) rfl
          have fh := R5.out.hs.free
          go_upto_region 11 with fail
          generalize hw8 : World.setCell _ _ _ = w8
          have HS8 := hx (show Blk w8 s (sdc { m1 with hold := m1.hold + 1 } b q) 64 by rw [← hw8]; exact R5.out.hs.set 35 _)
          have K8 := hx (show Kept [s] _ w8 by rw [← hw8]; exact (Kept.refl _ _).setCell (.inl (by simp)) _)
          clear hw8 ch fh cb
          have RF := hx (R5.out.cells K8.out HS8.out ⟨rfl, rfl, rfl, rfl, rfl, rfl, rfl, rfl⟩)
          go_wp2_with fail
          go_ret
          have kk := (K5.out.mono (cs := [s]) (by simp)).trans K8.out (fun _ h => h) (fun _ h => .inl h)
          refine ⟨_, v1, rfl, ?_, ?_, HK.out.trans kk (fun _ h => h) (fun g hg => .inl (by simp at hg; subst hg; simp [own])), HI.out.vo, ?_⟩
          · rw [HF1.out]
            exact Qd.own_kept3 HROW.out (fun g cs hv hg => kk.block g (Array.getElem?_eq_some_iff.1 hg).1 (by have h1 := (HROW.out.lt g hv).1; have h2 := HSL.out s (by simp [own]); simp; omega))
          · rw [HF1.out]
            exact RF.out
          · rw [HF1.out]
            have o1 := HI.out.ok
            exact ⟨o1.p0.mono (Int.le_refl _) (by omega), o1.p1.mono (Int.le_refl _) (by omega), o1.rt, o1.burst, o1.held, o1.spent, o1.full, o1.room, o1.turns, o1.len, o1.sess, o1.now, o1.drop, ⟨by show 0 ≤ m1.hold + 1; omega, by show m1.hold + 1 ≤ t + 1; omega⟩, o1.its⟩
end Go.Proofs.Ytgdofgckjkmhjaa.Mp
