/- The document's sender: Flush (under way). -/
import Derived.Test.YtgdofgckjkmhjaaGreatRfC
import Derived.Test.YtgdofgckjkmhjaaGreatRfK
import Derived.Test.YtgdofgckjkmhjaaGreatRfP
import Derived.Deep.CutBlock
import Derived.Deep.DeepCutAuto
set_option linter.unusedSimpArgs false
set_option linter.unusedVariables false
namespace Go.Proofs.YtgdofgckjkmhjaaGreat.Mp
open Go Go.RowKit
open Qd (dvl dv0 dvl_one infoDg step_of take_by)
/-- Where a flush of the document's stands. -/
structure RFlI (m : Ms) (k t : Int) (m1 : Ms) (l : List (Nat × Qd.Dv)) : Prop where
  ok : Ok m1 k t
  len : l.length + 2 * m1.s.length ≤ 600
  fin : flushM m = ((flushL m1.s m1).1, l ++ (flushL m1.s m1).2)
  sp : 0 ≤ m1.spent ∧ m1.spent + m1.held ≤ 100000000000000
def RFlP (w : World) (r : Ms × List (Nat × Qd.Dv)) (e : Ending) (w' : World) : Prop :=
  ∃ a2 c2 v, e = .returned (.tuple #[.agg (rsd r.1 a2 c2).toArray, v]) ∧ RL w' a2 c2 r.1.s ∧ DgR w' v (r.2.map Prod.snd) ∧ Kept [] w w'
def rlenN (g : Nat) (W : World) : Nat := match W.cell? ⟨g, 161, none⟩ with | some (.slice _ n _) => n | _ => 0
theorem rlen_eq {w W : World} {M : Ms} {a : Option Addr} {c base : Nat} {out : List Qd.Dv} {v : Value} (h : Tk w W M a c base out v) : rlenN w.heap.size W = M.s.length := by
  unfold rlenN
  rw [h.b.cell (i := 161) (v := .slice a M.s.length c) (rsd_at M a c 5)]
theorem cut_box {w W : World} {M : Ms} {rs : List Qd.It} {a a3 : Option Addr} {c c3 base n3 : Nat} {out : List Qd.Dv} {v : Value} (h : Tk w W M a c base out v) (hn : n3 = rs.length) : Tk w (W.setCell ⟨w.heap.size, 161, none⟩ (.slice a3 n3 c3)) { M with s := rs } a3 c3 base out v := by
  subst hn
  refine h.set ((Kept.refl _ _).setCell (.inl (by simp)) _) ?_
  have g := h.b.set 161 (.slice a3 rs.length c3)
  rw [show (161 : Nat) = 156 + 5 from rfl, rsd_set] at g
  exact g
theorem stA_sp (m : Ms) (x : Qd.Dv) (l : List Nat) : ∀ n, (stA m x l n).1.spent = m.spent ∧ (stA m x l n).1.held = m.held
  | 0 => ⟨rfl, rfl⟩
  | n + 1 => by
    have h := stA_sp m x l n
    have e := setW_same (stA m x l n).1 (l.getD n 0) { (stA m x l n).1.way (l.getD n 0) with next := nextU ((stA m x l n).1.way (l.getD n 0)).next }
    exact ⟨e.2.2.2.1.trans h.1, e.2.2.1.trans h.2⟩
theorem stA_okR {m : Ms} {x : Qd.Dv} {l : List Nat} {k t : Int} (o : Ok m k t) : ∀ n, Ok (stA m x l n).1 k t
  | 0 => o
  | n + 1 => (stA_okR o n).stamp _
/-- A block of another type is left when the row grows. -/
theorem Tk.grow_blk {w W W2 : World} {M : Ms} {a : Option Addr} {c base g : Nat} {out : List Qd.Dv} {v : Value} {T : TypeId} {xs : List Value} (h : Tk w W M a c base out v) (hg : W.grownBy W2 v.ownBlock) (hb : Blk W g xs T) (hT : T ≠ 50) : Blk W2 g xs T := by
  have hk : Kept v.ownBlock.toList W W2 := (Kept.refl _ _).grown hg (fun g e => .inl (by simp [e]))
  refine hk.blk hb (fun hm => ?_)
  have hne := own_ne h.row hb hT
  exact hne (by simpa using hm)
set_option linter.unusedSimpArgs false in
set_option maxRecDepth 100000 in
set_option maxHeartbeats 25600000 in
theorem rflush_m (m : Ms) (a : Option Addr) (c : Nat) (k t : Int) (w : World) (hl : RL w a c m.s) (o : Ok m k t) (hk : 65 * k ≤ 1000000) (ht : t ≤ 1000000) (hsp : 0 ≤ m.spent ∧ m.spent + m.held ≤ 100000000000000) :
    Calls Tryz.prog 35 #[.agg (rsd m a c).toArray] w (RFlP w (flushM m)) := by
  obtain ⟨Z, hZ, hz⟩ := zeroRS'
  have HZL := hx (show Z.toList.length = 167 by rw [hZ, rsd_len])
  have S0 := hx (rs_start m a c w Z hZ)
  have HL := hx hl
  have HKT := hx (And.intro hk ht)
  have HI0 := hx (show RFlI m k t m [] from ⟨o, by have h1 := o.len; have h2 := o.room; simp; omega, by rw [List.nil_append]; rfl, hsp⟩)
  clear hZ hl o hk ht hsp
  go_enter Tryz.func35, Tryz.ntmps35
  go_upto_region 1 with fail
  generalize (w.alloc (.cells (rsd m a c).toArray 40)).alloc (.cells Z 40) = W0 at *
  have T0 := hx (show Tk w W0 m a c W0.heap.size ([] : List Qd.Dv) (.slice none 0 0) from ⟨S0.out.1, S0.out.2.1, World.ownsRow_nil _ _ _ _, S0.out.2.2, by have := S0.out.2.1.lt; omega, Nat.le_refl _⟩)
  obtain ⟨base, hbase⟩ : ∃ b, W0.heap.size = b := ⟨_, rfl⟩
  rw [hbase] at T0
  clear hbase S0
  go_wp2_with fail
  go_loopw [4] (fun s4 wr => ∃ (m1 : Ms) (a1 : Option Addr) (c1 : Nat) (l : List (Nat × Qd.Dv)), Hx (Tk w wr m1 a1 c1 base (l.map Prod.snd) s4) ∧ Hx (RL w a1 c1 m1.s) ∧ Hx (RFlI m k t m1 l)) (fun _ wr => rlenN w.heap.size wr)
  case atStart => exact ⟨m, a, c, [], T0, HL, HI0⟩
  case round =>
    clear T0 HI0 HL
    obtain ⟨m1, a1, c1, l, HTK, HRL, HI⟩ := hrel
    have HWN := hx (rlen_eq HTK.out)
    have cl := HTK.out.b.cell (i := 161) (v := .slice a1 m1.s.length c1) (rsd_at m1 a1 c1 5)
    obtain ⟨n1, hn1⟩ : ∃ n1, m1.s.length = n1 := ⟨_, rfl⟩
    rw [hn1] at cl
    by_cases h0 : n1 = 0
    · subst h0
      have HNIL := hx (show m1.s = [] from List.eq_nil_of_length_eq_zero hn1)
      have HF := hx (show flushM m = (m1, l) from by rw [HI.out.fin, HNIL.out]; simp [flushL])
      clear hn1
      go_wp2_with (first
        | (refine load_blk rfl 40 (.tmp 1) rfl w.heap.size rfl 40 _ _ HTK.out.b Tryz.underlying40 rfl (infoRs2 _ _ _) ?_)
        | (refine store_blk rfl 40 (.tmp 2) (.tmp 86) rfl (w.heap.size + 1) rfl 40 _ (rsd m1 a1 c1) rfl HTK.out.r (by rw [rsd_len, rsd_len]) (infoRs2 _ _ _) (rsd_one _ _ _) ?_; intro w5 hb5 hk5))
      refine bodyPost_ret (Qd.ret_blk2 rfl _ (w.heap.size + 1) _ _ _ _ rfl rfl hb5 Tryz.underlying40 rfl (infoRs2 _ _ _)) rfl ?_
      rw [HF.out]
      exact ⟨a1, c1, _, by rfl, HRL.out.kept (Kept.behind HTK.out.k hk5 (by omega)), HTK.out.dgR hk5, Kept.behind HTK.out.k hk5 (by omega)⟩
    · obtain ⟨it, rs, hs⟩ : ∃ it rs, m1.s = it :: rs := by
        cases h : m1.s with
        | nil => rw [h] at hn1; exact absurd hn1.symm (by simpa using h0)
        | cons x y => exact ⟨x, y, rfl⟩
      have HSE := hx hs
      have hn1b : (0 : Int) < (n1 : Int) ∧ (n1 : Int) ≤ 256 := by have h1 := HI.out.ok.len; have h2 := HI.out.ok.room; omega
      obtain ⟨gr, og, rfl, hra0⟩ := HRL.out.range (i := 0) (y := it) (by rw [hs]; rfl)
      have hra : wr.rangeAt gr og (snt it.rank it.v) := by
        have h := HTK.out.k.range hra0 (by simp)
        simpa using h
      have HN1 := hx hn1
      have HITS := hx (HI.out.ok.its it (by rw [hs]; exact List.mem_cons_self))
      have hdl : (it.v.d.data.length : Int) ≤ 1200 := by have := HITS.out.2.1; omega
      clear h0 hs hra0 hn1
      go_upto_region 3 with fail
      go_upto_region 4 with (first
        | (refine wpList_load_mid rfl 121 (.tmp 19) rfl gr og rfl (snt it.rank it.v) _ hra Tryz.underlying121 rfl infoRi ?_)
        | (refine store_blk rfl 121 (.tmp 5) (.tmp 20) rfl wr.heap.size rfl 121 _ (snt it.rank it.v) rfl (Blk.new wr (snt 0 dv0) 121) rfl infoRi (snt_one _ _) ?_; intro w5 hb5 hk5; have B5 := hx hb5; have K5 := hx (((Kept.refl [] wr).alloc _).trans hk5 (ds := []) (fun _ h => h) (fun x h => by simp at h; subst h; exact .inr (Nat.le_refl _))); clear hb5 hk5))
      have T5 := hx (HTK.out.kept K5.out)
      obtain ⟨g5, hg5⟩ : ∃ g, wr.heap.size = g := ⟨_, rfl⟩
      have HG5 := hx (show w.heap.size < g5 from by have h1 := HTK.out.hb; have h2 := HTK.out.hz; omega)
      rw [hg5] at B5
      rw [hg5]
      clear hg5 hra cl
      have e0 := B5.out.cell (i := 0) rfl
      have e11 := B5.out.cell (i := 11) (v := .slice it.v.p it.v.d.data.length it.v.c) rfl
      have HCH := hx (fun W => rchoose_m m1 (some ⟨gr, og, none⟩) c1 k t it.rank W HI.out.ok HKT.out.1)
      go_upto_region 5 with fail
      go_upto_region 6 with (first
        | (refine load_blk rfl 40 (.tmp 1) rfl w.heap.size rfl 40 _ _ T5.out.b Tryz.underlying40 rfl (infoRs2 _ _ _) ?_)
        | (go_at_call 63; refine (HCH.out _).mono ?_; rintro e w6 ⟨u6, rfl, hi6, hk6⟩; obtain ⟨g6, c6, xs6, hu6, hc6, hcm6, hb6, hx6⟩ := hi6.at_; subst hu6; have T6 := hx (T5.out.kept hk6); have B6 := hx (hk6.blk B5.out (by simp)); have X6 := hx hb6; have Y6 := hx hx6; have hc6' := hc6; clear hk6 hb6 hx6 hi6))
      clear e0 e11 HCH
      obtain ⟨l0, hl0⟩ : ∃ l0, choM m1 it.rank = l0 := ⟨_, rfl⟩
      have HCL := hx (show (l0.length = 1 ∨ l0.length = 2) ∧ ∀ x, x ∈ l0 → x < 2 by rw [← hl0]; exact choM_len m1 it.rank)
      rw [hl0] at Y6 hc6 hc6'
      rw [hl0]
      obtain ⟨nn, hnn⟩ : ∃ nn : Int, 33 + (it.v.d.data.length : Int) = nn := ⟨_, rfl⟩
      have HNN := hx (show sizeI it.v = nn from hnn)
      have hnb : 33 ≤ nn ∧ nn ≤ 1233 := by omega
      have HWF := hx (show waysF m1 it = fitW nn m1.held l0 by unfold waysF; rw [hl0, HNN.out])
      rw [hnn]
      have hll : (1 : Int) ≤ (l0.length : Int) ∧ (l0.length : Int) ≤ 2 := by have := HCL.out.1; omega
      clear hl0 hnn hdl hc6'
      go_upto_block 2 with fail
      go_cut [8] from 32 to 44 (fun s8 wx => s8 = .int .i64 ((waysF m1 it).length : Int) ∧ wx = w6)
      case first =>
        have ch := T6.out.b.cell (i := 158) (v := .int .i64 m1.held) (rsd_at m1 _ c1 2)
        go_wp2_with fail
        go_loopw [8] (fun s8 wq => ∃ j : Nat, s8 = .int .i64 (j : Int) ∧ Hx (j = l0.length ∨ (j = 1 ∧ l0.length = 2 ∧ ¬ nn * 2 ≤ m1.held)) ∧ wq = w6) (fun s8 _ => (intOf s8).toNat)
        case atStart => exact ⟨l0.length, rfl, hx (.inl rfl), rfl⟩
        case round =>
          obtain ⟨j, rfl, HJ, rfl⟩ := hrel
          have hj : j = 1 ∨ j = 2 := by have h1 := HCL.out.1; have h2 := HJ.out; omega
          rcases hj with rfl | rfl
          · have HE := hx (show (waysF m1 it).length = 1 by
              rw [HWF.out]
              unfold fitW
              have h2 := HJ.out
              split
              · rw [List.length_take]; omega
              · rename_i h3
                omega)
            go_wp2_with fail
            go_meet
            exact ⟨by rw [HE.out]; rfl, rfl⟩
          · have h2 : l0.length = 2 := by have := HJ.out; omega
            have HL2 := hx h2
            clear h2
            by_cases hm : nn * 2 ≤ m1.held
            · have dm : decide (m1.held < nn * 2) = false := decide_eq_false (by omega)
              have HE := hx (show (waysF m1 it).length = 2 by rw [HWF.out]; unfold fitW; rw [if_neg (by omega)]; exact HL2.out)
              go_wp2_with fail
              go_meet
              exact ⟨by rw [HE.out]; rfl, rfl⟩
            · have dm : decide (m1.held < nn * 2) = true := decide_eq_true (by omega)
              have HNM := hx hm
              clear hm
              go_wp2_with fail
              go_roundw
              case rel => exact ⟨1, rfl, hx (.inr ⟨rfl, HL2.out, by have := HNM.out; omega⟩), by first | rfl | trivial⟩
              case measure => simp [intOf]
      case rest =>
        obtain ⟨rfl, rfl⟩ := hcut
        obtain ⟨lam, hlam⟩ : ∃ lam, (waysF m1 it).length = lam := ⟨_, rfl⟩
        have hwl0 := fitW_len nn m1.held l0 HCL.out.1 HCL.out.2
        rw [← HWF.out, hlam] at hwl0
        rw [hlam]
        have hl12 := hwl0.1
        have HWG := hx hwl0.2
        have HLAM := hx hlam
        have HLE := hx (show lam ≤ l0.length by
          rw [← hlam, HWF.out]
          unfold fitW
          split
          · rw [List.length_take]; omega
          · exact Nat.le_refl _)
        have hpos : 0 ≤ nn * (lam : Int) ∧ nn * (lam : Int) ≤ 3000 := by
          rcases hl12 with h | h
          · rw [h]; push_cast; omega
          · rw [h]; push_cast; omega
        have hfl : flushL (it :: rs) m1 = if nn * (lam : Int) ≤ m1.held then ((flushL rs (goF m1 it rs).1).1, (goF m1 it rs).2 ++ (flushL rs (goF m1 it rs).1).2) else ({ m1 with hold := m1.hold + 1 }, []) := by
          rw [flushL, HNN.out, hlam]
        have HFL := hx hfl
        have HGO := hx (show goF m1 it rs = stA { takeM m1 (nn * (lam : Int)) with s := rs } it.v (waysF m1 it) lam by unfold goF; rw [HNN.out, hlam])
        have hhb := HI.out.ok.held
        have hbu := HI.out.ok.burst
        have hspb := HI.out.sp
        have HTA := hx (fun W => rtake_m m1 (some ⟨gr, og, none⟩) c1 (nn * (lam : Int)) W hpos.1 (by omega) (by omega))
        clear hwl0 hlam hfl HWF hhb hbu hspb
        by_cases hgo : nn * (lam : Int) ≤ m1.held
        · obtain ⟨M0, hM0⟩ : ∃ M0, takeM m1 (nn * (lam : Int)) = M0 := ⟨_, rfl⟩
          have HTY := hx (fun W => show Calls Tryz.prog 58 #[.agg (rsd m1 (some ⟨gr, og, none⟩) c1).toArray, .int .i64 (nn * (lam : Int))] W (fun e w' => e = .returned (.tuple #[.agg (rsd M0 (some ⟨gr, og, none⟩) c1).toArray, .bool true]) ∧ Kept [] W w') from by
            have h := HTA.out W
            unfold RTaP at h
            rw [if_pos hgo, decide_eq_true hgo, hM0] at h
            exact h)
          have HF1 := hx (show flushM m = ((flushL rs (goF m1 it rs).1).1, l ++ ((goF m1 it rs).2 ++ (flushL rs (goF m1 it rs).1).2)) by rw [HI.out.fin, HSE.out, HFL.out, if_pos hgo])
          have OKT := hx ((HI.out.ok.take (nn * (lam : Int)) hpos.1 hgo).popped (r := rs) (it := it) HSE.out)
          have HM0 := hx hM0
          have HSP0 := hx (show 0 ≤ M0.spent ∧ M0.spent + M0.held ≤ 100000000000000 ∧ M0.s = m1.s from by
            have h1 := HI.out.sp
            have h2 := HI.out.ok.held
            rw [← hM0]
            show 0 ≤ Mp.hold (m1.spent + nn * (lam : Int)) ∧ Mp.hold (m1.spent + nn * (lam : Int)) + (m1.held - nn * (lam : Int)) ≤ 100000000000000 ∧ m1.s = m1.s
            rw [hold_id (by omega) (by omega)]
            exact ⟨by omega, by omega, rfl⟩)
          obtain ⟨M1, hM1⟩ : ∃ M1, ({ M0 with s := rs } : Ms) = M1 := ⟨_, rfl⟩
          rw [hM0, hM1] at OKT HGO
          have HM1 := hx hM1
          clear hM0 hM1 hgo HTA HFL
          go_upto_region 10 with (first
            | (refine load_blk rfl 40 (.tmp 1) rfl w.heap.size rfl 40 _ _ T6.out.b Tryz.underlying40 rfl (infoRs2 _ _ _) ?_)
            | (go_at_call 58; refine (HTY.out _).mono ?_; rintro e w7 ⟨rfl, hk7⟩; have T7 := hx (T6.out.kept hk7); have K7 := hx hk7; clear hk7)
            | (refine store_blk rfl 40 (.tmp 9) (.tmp 51) rfl w7.heap.size rfl 40 _ (rsd M0 (some ⟨gr, og, none⟩) c1) rfl (Blk.new' w7 Z 40) (by rw [rsd_len]; exact HZL.out.symm) (infoRs2 _ _ _) (rsd_one _ _ _) ?_; intro w8 hb8 hk8; have B8 := hx hb8; have K8 := hx (((Kept.refl [] w7).alloc _).trans hk8 (ds := []) (fun _ h => h) (fun x h => by simp at h; subst h; exact .inr (Nat.le_refl _))); have T8 := hx (T7.out.kept K8.out); clear hb8 hk8))
          go_upto_region 13 with fail
          go_upto_region 14 with (first
            | (refine load_blk rfl 40 (.tmp 9) rfl w7.heap.size rfl 40 _ _ B8.out Tryz.underlying40 rfl (infoRs2 _ _ _) ?_)
            | (refine store_blk rfl 40 (.tmp 1) (.tmp 61) rfl w.heap.size rfl 40 _ (rsd M0 (some ⟨gr, og, none⟩) c1) rfl T8.out.b (by rw [rsd_len, rsd_len]) (infoRs2 _ _ _) (rsd_one _ _ _) ?_; intro w9 hb9 hk9; have T9 := hx (T8.out.set hk9 hb9); have K9 := hx hk9; clear hb9 hk9))
          have BI9 := hx (K9.out.blk ((K7.out.trans0 K8.out).blk B6.out (by simp)) (by have := HG5.out; simp; omega))
          have BX9 := hx (K9.out.blk ((K7.out.trans0 K8.out).blk X6.out (by simp)) (by have h := blk_ne X6.out T6.out.b (by decide); simpa using h))
          try simp only [Act.put, List.getElem_toArray, List.getElem_cons_succ, List.getElem_cons_zero, List.setIfInBounds_toArray, List.set_cons_zero, List.set_cons_succ]
          go_cut [64] from 62 to 65 (fun _ wx => ∃ (a3 : Option Addr) (c3 : Nat), Hx (Tk w wx M1 a3 c3 base (l.map Prod.snd) u4) ∧ Hx (RL w a3 c3 rs) ∧ Hx (Blk wx g5 (snt it.rank it.v) 121) ∧ Hx (Blk wx g6 xs6 3))
          case first =>
            have cl9 : w9.cell? ⟨w.heap.size, 161, none⟩ = some (.slice (some ⟨gr, og, none⟩) n1 c1) := T9.out.b.cell (by rw [← HN1.out, ← HSP0.out.2.2]; exact rsd_at M0 _ c1 5)
            have ff := T9.out.b.free
            have hle : n1 ≤ c1 := by have h := HRL.out.le; have := HN1.out; omega
            have hnr : n1 = rs.length + 1 := by rw [← HN1.out, HSE.out]; rfl
            have hn1c : (1 : Int) ≤ (n1 : Int) := by omega
            have hcc : (n1 : Int) ≤ (c1 : Int) := by omega
            have HTL := hx (show RL w (some ⟨gr, og, none⟩) c1 (it :: rs) from by rw [← HSE.out]; exact HRL.out)
            by_cases hc : c1 = 1
            · subst hc
              obtain rfl : n1 = 1 := by omega
              have HRS := hx (show rs = [] from List.eq_nil_of_length_eq_zero (by omega))
              have HNR := hx hnr
              clear hnr
              go_wp2_with fail
              go_meet
              refine ⟨some ⟨gr, og, none⟩, 0, hx ?_, hx ?_, hx (BI9.out.set_ne (by have := HG5.out; simp; omega) _), hx (BX9.out.set_ne (by have h := blk_ne BX9.out T9.out.b (by decide); simpa using h) _)⟩
              · rw [← HM1.out]
                exact cut_box T9.out (by rw [HRS.out]; rfl)
              · rw [HRS.out]
                exact RL.none (by unfold maxLen; omega)
            · have hc1 : (1 : Int) < (c1 : Int) := by omega
              have hc2 : 1 < c1 := by omega
              have HNR := hx hnr
              clear hnr hc
              go_wp2_with fail
              go_meet
              refine ⟨some ⟨gr, og + 12, none⟩, c1 - 1, hx ?_, hx ?_, hx (BI9.out.set_ne (by have := HG5.out; simp; omega) _), hx (BX9.out.set_ne (by have h := blk_ne BX9.out T9.out.b (by decide); simpa using h) _)⟩
              · rw [← HM1.out]
                exact cut_box T9.out (by have := HNR.out; omega)
              · exact HTL.out.tail
          case rest =>
            obtain ⟨a3, c3, T10, HRL3, BI10, BX10⟩ := hcut
            have HLN2 := hx (show l.length ≤ 600 from by have := HI.out.len; omega)
            clear T6 T7 T8 T9 B8 K7 K8 K9 BI9 BX9 B6 X6 HRL
            go_wp2_with fail
            go_loopw [11, 4] (fun s11 s4 wr => ∃ j : Nat, s11 = .int .i64 (j : Int) ∧ Hx (j ≤ lam) ∧ Hx (Tk w wr (stA M1 it.v (waysF m1 it) j).1 a3 c3 base ((l ++ (stA M1 it.v (waysF m1 it) j).2).map Prod.snd) s4) ∧ Hx (Blk wr g5 (snt it.rank it.v) 121) ∧ Hx (Blk wr g6 xs6 3)) (fun s11 _ _ => lam - (intOf s11).toNat)
            case atStart => exact ⟨0, rfl, hx (Nat.zero_le _), hx (by rw [show (stA M1 it.v (waysF m1 it) 0).2 = [] from rfl, List.append_nil]; exact T10.out), BI10, BX10⟩
            case round =>
              clear T10 BI10 BX10
              obtain ⟨j, rfl, HJ, TR, BIR, BXR⟩ := hrel
              by_cases hjl : j < lam
              · have hjI : (j : Int) < (lam : Int) := by omega
                have hj2 : (j : Int) < (l0.length : Int) := by have := HLE.out; omega
                have HJL := hx hjl
                have OKJ := hx (stA_okR (x := it.v) (l := waysF m1 it) OKT.out j)
                have HSL := hx (show (stA M1 it.v (waysF m1 it) j).2.length = j from by rw [stA_len])
                obtain ⟨wj, hwj⟩ : ∃ wj, (waysF m1 it).getD j 0 = wj := ⟨_, rfl⟩
                have HWJ := hx (show wj < 2 ∧ l0.getD j 0 = wj from by
                  have h := HWG.out j (by omega)
                  rw [← hwj]
                  exact ⟨h.2, h.1.symm⟩)
                have HNX := hx (show stA M1 it.v (waysF m1 it) (j + 1) = (stM (stA M1 it.v (waysF m1 it) j).1 wj, (stA M1 it.v (waysF m1 it) j).2 ++ [(wj, stD (stA M1 it.v (waysF m1 it) j).1 wj it.v)]) from by rw [← hwj]; rfl)
                obtain ⟨Mj, hMj⟩ : ∃ Mj, (stA M1 it.v (waysF m1 it) j).1 = Mj := ⟨_, rfl⟩
                obtain ⟨Lj, hLj⟩ : ∃ Lj, (stA M1 it.v (waysF m1 it) j).2 = Lj := ⟨_, rfl⟩
                rw [hMj] at TR OKJ HNX
                rw [hLj] at TR HSL HNX
                have hnx : (Mj.way wj).next < 4294967296 := (OKJ.out.way wj).next
                have HST := hx (fun W => rstamp_m Mj a3 c3 wj it.v W HWJ.out.1 hnx)
                clear hMj hLj hwj hnx hjl
                go_upto_region 19 with fail
                obtain ⟨w11, hw11⟩ : ∃ w11, wr = w11 := ⟨_, rfl⟩
                generalize hw12 : World.alloc wr _ = w12
                obtain ⟨g12, hg12⟩ : ∃ g, wr.heap.size = g := ⟨_, rfl⟩
                have D12 := hx (show Blk w12 g12 (dvl dv0) 50 from by rw [← hw12, ← hg12]; exact Blk.new wr (dvl dv0) 50)
                have KA12 := hx (show Kept [] w11 w12 from by rw [← hw12, ← hw11]; exact (Kept.refl _ _).alloc _)
                have HG12 := hx (show w11.heap.size ≤ g12 ∧ w.heap.size < g12 from by rw [← hw11, ← hg12]; have h1 := TR.out.hb; have h2 := TR.out.hz; omega)
                have hlt5 := BIR.out.lt
                have hlt6 := BXR.out.lt
                have HGN := hx (show g5 ≠ g12 ∧ g6 ≠ g12 ∧ g5 ≠ w.heap.size ∧ g6 ≠ w.heap.size from by
                  have h1 := HG5.out
                  have h2 := blk_ne BXR.out TR.out.b (by decide)
                  omega)
                have T10 := hx (show Tk w w11 Mj a3 c3 base ((l ++ Lj).map Prod.snd) u4 from by rw [← hw11]; exact TR.out)
                have T11 := hx (T10.out.kept KA12.out)
                have BI11 := hx (show Blk w12 g5 (snt it.rank it.v) 121 from KA12.out.blk (by rw [← hw11]; exact BIR.out) (by simp))
                have BX11 := hx (show Blk w12 g6 xs6 3 from KA12.out.blk (by rw [← hw11]; exact BXR.out) (by simp))
                rw [hg12]
                have HSK := hx (fun (W : World) (hk : Kept [w.heap.size, g12] w12 W) => show (fun w3 => w3.cell? ⟨g6, j, none⟩ = some (.int .i64 ((wj : Nat) : Int)) ∧ w3.rangeAt g5 1 (dvl it.v)) W from ⟨(hk.blk BX11.out (by have := HGN.out; simp; omega)).cell (by rw [Y6.out j (by omega), HWJ.out.2]), fun q u hu => (hk.blk BI11.out (by have := HGN.out; simp; omega)).cell (by rw [show 1 + q = q + 1 by omega]; simpa [snt] using hu)⟩)
                clear hw12 hg12 hlt5 hlt6 TR BIR BXR hw11
                refine wp_region_held_drew (S := (fun w3 => w3.cell? ⟨g6, j, none⟩ = some (.int .i64 ((wj : Nat) : Int)) ∧ w3.rangeAt g5 1 (dvl it.v))) (by kernel_rfl) (HSK.out _ (Kept.drew (Kept.refl [w.heap.size, g12] _))) (fun hHeld => ?_)
                refine take_by 1 73 (v := ?_) rfl rfl (by kernel_rfl) (by kernel_rfl) (by kernel_rfl) (fun _ _ _ h => h) (Or.inl ⟨by rfl, ?_⟩) (by assumption) ?_
                rotate_left
                · (intro w hSw; (try dsimp only at hSw); go_simp; try with_reducible rfl)
                try simp only [List.setIfInBounds_toArray, List.set_cons_zero, List.set_cons_succ]
                refine take_by 2 74 (v := ?_) rfl rfl (by kernel_rfl) (by kernel_rfl) (by kernel_rfl) (fun _ _ _ h => h) (Or.inl ⟨by rfl, ?_⟩) (by assumption) ?_
                rotate_left
                · (intro w hSw; (try dsimp only at hSw); go_simp; try with_reducible rfl)
                try simp only [List.setIfInBounds_toArray, List.set_cons_zero, List.set_cons_succ]
                refine take_by 3 75 (v := ?_) rfl rfl (by kernel_rfl) (by kernel_rfl) (by kernel_rfl) (fun _ _ _ h => h) (Or.inl ⟨by rfl, ?_⟩) (by assumption) ?_
                rotate_left
                · (intro w hSw; (try dsimp only at hSw); go_simp; try with_reducible rfl)
                try simp only [List.setIfInBounds_toArray, List.set_cons_zero, List.set_cons_succ]
                refine take_by 4 76 (v := ?_) rfl rfl (by kernel_rfl) (by kernel_rfl) (by kernel_rfl) (fun _ _ _ h => h) (Or.inl ⟨by rfl, ?_⟩) (by assumption) ?_
                rotate_left
                · (intro w hSw; (try dsimp only at hSw); go_simp; try with_reducible rfl)
                try simp only [List.setIfInBounds_toArray, List.set_cons_zero, List.set_cons_succ]
                refine take_by 5 77 (v := ?_) rfl rfl (by kernel_rfl) (by kernel_rfl) (by kernel_rfl) (fun _ _ _ h => h) (Or.inl ⟨by rfl, ?_⟩) (by assumption) ?_
                rotate_left
                · (intro w hSw; (try dsimp only at hSw); go_simp; try with_reducible rfl)
                try simp only [List.setIfInBounds_toArray, List.set_cons_zero, List.set_cons_succ]
                refine take_by 6 78 (v := .agg (dvl it.v).toArray) rfl rfl (by kernel_rfl) (by kernel_rfl) (by kernel_rfl) (fun _ _ _ h => h) (yieldsIf_load_mid (by rfl) 50 (.tmp 77) rfl g5 (1) rfl (dvl it.v) _ (fun _ hS => hS.2) Tryz.underlying50 rfl (by kernel_rfl)) (by assumption) ?_
                try simp only [List.setIfInBounds_toArray, List.set_cons_zero, List.set_cons_succ]
                refine wpAnyH_ready (rs := [0]) (by kernel_rfl) (by simp) ?_
                refine AllReadyH.cons rfl (fun K hK => ?_) AllReadyH.nil
                refine step_of rfl (wp_load_mid 40 (.tmp 1) rfl w.heap.size 0 rfl (rsd Mj a3 c3) _ (show World.rangeAt _ _ _ _ from T11.out.b.range) Tryz.underlying40 rfl (infoRs2 _ _ _) ?_)
                refine hK.out _ _ (HSK.out _ (Kept.drew (Kept.refl [w.heap.size, g12] _))) (fun _ => ?_)
                clear hK K
                try simp only [Act.put, List.getElem_toArray, List.getElem_cons_succ, List.getElem_cons_zero, List.setIfInBounds_toArray, List.set_cons_zero, List.set_cons_succ]
                refine wpAnyH_ready (rs := [7]) (by kernel_rfl) (by simp) ?_
                refine AllReadyH.cons rfl (fun K hK => ?_) AllReadyH.nil
                go_simp
                (go_at_call 59; refine (HST.out _).mono ?_; rintro e w13 ⟨rfl, hk13⟩; have K13 := hx (show Kept [] w12 w13 from (Kept.drew (Kept.refl [] w12)).trans0 hk13); clear hk13)
                refine hK.out _ _ (HSK.out _ (K13.out.mono (by simp))) (fun _ => ?_)
                clear hK K
                try simp only [Act.put, List.getElem_toArray, List.getElem_cons_succ, List.getElem_cons_zero, List.setIfInBounds_toArray, List.set_cons_zero, List.set_cons_succ]
                refine take_by 8 71 (v := ?_) rfl rfl (by kernel_rfl) (by kernel_rfl) (by kernel_rfl) (fun _ _ _ h => h) (Or.inl ⟨by rfl, ?_⟩) (by assumption) ?_
                rotate_left
                · (intro w hSw; (try dsimp only at hSw); go_simp; try with_reducible rfl)
                try simp only [List.setIfInBounds_toArray, List.set_cons_zero, List.set_cons_succ]
                refine take_by 9 80 (v := ?_) rfl rfl (by kernel_rfl) (by kernel_rfl) (by kernel_rfl) (fun _ _ _ h => h) (Or.inl ⟨by rfl, ?_⟩) (by assumption) ?_
                rotate_left
                · (intro w hSw; (try dsimp only at hSw); go_simp; try with_reducible rfl)
                try simp only [List.setIfInBounds_toArray, List.set_cons_zero, List.set_cons_succ]
                refine take_by 10 81 (v := ?_) rfl rfl (by kernel_rfl) (by kernel_rfl) (by kernel_rfl) (fun _ _ _ h => h) (Or.inl ⟨by rfl, ?_⟩) (by assumption) ?_
                rotate_left
                · (intro w hSw; (try dsimp only at hSw); go_simp; try with_reducible rfl)
                try simp only [List.setIfInBounds_toArray, List.set_cons_zero, List.set_cons_succ]
                have T13 := hx (T11.out.kept K13.out)
                have D13 := hx (K13.out.blk D12.out (by simp))
                refine wpAnyH_ready (rs := [11]) (by kernel_rfl) (by simp) ?_
                refine AllReadyH.cons rfl (fun K hK => ?_) AllReadyH.nil
                refine Qd.step_storeB rfl 40 (.tmp 1) (.tmp 80) rfl w.heap.size rfl 40 (rsd Mj a3 c3) (rsd (stM Mj wj) a3 c3) rfl T13.out.b (by rw [rsd_len, rsd_len]) (infoRs2 _ _ _) (rsd_one _ _ _) ?_
                intro w14 hb14 hk14
                have T14 := hx (T13.out.set hk14 hb14)
                have D14 := hx (hk14.blk D13.out (by have := HG12.out.2; simp; omega))
                have K14 := hx (show Kept [w.heap.size, g12] w12 w14 from (K13.out.mono (by simp)).trans hk14 (fun _ h => h) (fun g hg => .inl (by simp at hg; simp [hg])))
                have KB14 := hx hk14
                clear hb14 hk14
                refine hK.out _ _ (HSK.out _ K14.out) (fun _ => ?_)
                clear hK K
                try simp only [Act.put, List.getElem_toArray, List.getElem_cons_succ, List.getElem_cons_zero, List.setIfInBounds_toArray, List.set_cons_zero, List.set_cons_succ]
                refine wpAnyH_ready (rs := [12]) (by kernel_rfl) (by simp) ?_
                refine AllReadyH.cons rfl (fun K hK => ?_) AllReadyH.nil
                refine Qd.step_storeB rfl 50 (.tmp 12) (.tmp 81) rfl g12 rfl 50 (dvl dv0) (dvl (stD Mj wj it.v)) rfl D14.out rfl infoDg (dvl_one _) ?_
                intro w15 hb15 hk15
                have D15 := hx hb15
                have K15 := hx (show Kept [w.heap.size, g12] w12 w15 from K14.out.trans hk15 (fun _ h => h) (fun g hg => .inl (by simp at hg; simp [hg])))
                have T15 := hx (T10.out.set ((((show Kept [w.heap.size] w11 w12 from (KA12.out.mono (by simp))).trans0 K13.out).trans KB14.out (fun _ h => h) (fun g hg => .inl hg)).trans hk15 (fun _ h => h) (fun g hg => by simp at hg; subst hg; exact .inr (by have := HG12.out.1; omega))) (hk15.blk T14.out.b (by have := HG12.out.2; simp; omega)))
                clear hb15 hk15
                refine hK.out _ _ (HSK.out _ K15.out) (fun _ => ?_)
                clear hK K
                try simp only [Act.put, List.getElem_toArray, List.getElem_cons_succ, List.getElem_cons_zero, List.setIfInBounds_toArray, List.set_cons_zero, List.set_cons_succ]
                refine wpAnyH_done (by kernel_rfl) ?_ _
                have BI15 := hx (K15.out.blk BI11.out (by have := HGN.out; simp; omega))
                have BX15 := hx (K15.out.blk BX11.out (by have := HGN.out; simp; omega))
                clear T10 T11 T13 T14 D12 D13 D14 K13 K14 KB14 K15 BI11 BX11 HSK HST
                go_wp2_with (first
                  | (refine load_blk rfl 50 (.tmp 12) rfl g12 rfl 50 _ _ D15.out Tryz.underlying50 rfl infoDg ?_)
                  | (refine wpList_bs1 rfl 93 50 (.tmp 83) rfl 11 88 _ infoDg3 (dvl (stD Mj wj it.v)) rfl rfl (by omega) (by omega) Tryz.underlying93 ?_; intro w16 hb16 hk16; have B16 := hx hb16; have T16 := hx (T15.out.kept hk16); have BI16 := hx (hk16.blk BI15.out (by simp)); have BX16 := hx (hk16.blk BX15.out (by simp)); clear hb16 hk16; refine dg_app rfl (.tmp 82) (.tmp 84) rfl base _ ((l ++ Lj).map Prod.snd) rfl T16.out.row _ (stD Mj wj it.v) rfl B16.out (by rw [List.length_map, List.length_append]; have h1 := HLN2.out; have h2 := HSL.out; have h3 := HJL.out; omega) T16.out.hz ?_; intro v17 w17 ho17 hg17; have T17 := hx (T16.out.grow hg17 ho17); have BI17 := hx (T16.out.grow_blk hg17 BI16.out (by decide)); have BX17 := hx (T16.out.grow_blk hg17 BX16.out (by decide)); clear ho17 hg17))
                go_roundw
                case rel =>
                  refine ⟨j + 1, by push_cast; rfl, hx (by have := HJL.out; omega), ?_, BI17, BX17⟩
                  rw [HNX.out]
                  have e : (l ++ (Lj ++ [(wj, stD Mj wj it.v)])).map Prod.snd = (l ++ Lj).map Prod.snd ++ [stD Mj wj it.v] := by simp
                  rw [e]
                  exact T17
                case measure =>
                  simp only [intOf]
                  have := HJL.out
                  omega
              · obtain rfl : j = lam := by have := HJ.out; omega
                clear hjl
                have HGS := hx (show (stA M1 it.v (waysF m1 it) j).1.s = rs from by rw [stA_s, ← HM1.out])
                have HSPS := hx (stA_sp M1 it.v (waysF m1 it) j)
                have HOKS := hx (stA_okR (x := it.v) (l := waysF m1 it) OKT.out j)
                have HLS := hx (show (stA M1 it.v (waysF m1 it) j).2.length ≤ 2 from by rw [stA_len]; have := HCL.out.1; have := HLE.out; omega)
                have HWN2 := hx (rlen_eq TR.out)
                go_wp2_with fail
                go_roundw
                case rel =>
                  refine ⟨(stA M1 it.v (waysF m1 it) j).1, a3, c3, l ++ (stA M1 it.v (waysF m1 it) j).2, TR, hx (by rw [HGS.out]; exact HRL3.out), hx ⟨HOKS.out, ?_, ?_, ?_⟩⟩
                  · rw [HGS.out, List.length_append]
                    have h1 := HI.out.len
                    rw [HSE.out] at h1
                    simp only [List.length_cons] at h1
                    have h2 := HLS.out
                    omega
                  · rw [HF1.out, HGO.out, HGS.out, List.append_assoc]
                  · rw [HSPS.out.1, HSPS.out.2, ← HM1.out]
                    exact ⟨HSP0.out.1, HSP0.out.2.1⟩
                case measure =>
                  rw [HWN2.out, HGS.out, HWN.out, HSE.out]
                  simp
        · have HTN := hx (fun W => show Calls Tryz.prog 58 #[.agg (rsd m1 (some ⟨gr, og, none⟩) c1).toArray, .int .i64 (nn * (lam : Int))] W (fun e w' => e = .returned (.tuple #[.agg (rsd m1 (some ⟨gr, og, none⟩) c1).toArray, .bool false]) ∧ Kept [] W w') from by
            have h := HTA.out W
            unfold RTaP at h
            rw [if_neg hgo, decide_eq_false hgo] at h
            exact h)
          have HF1 := hx (show flushM m = ({ m1 with hold := m1.hold + 1 }, l) by rw [HI.out.fin, HSE.out, HFL.out, if_neg hgo]; simp [HSE.out])
          have hhl : 0 ≤ m1.hold ∧ m1.hold ≤ 1000000 := by have h1 := HI.out.ok.hold; have h2 := HKT.out; omega
          clear hgo HTA HFL
          go_upto_region 10 with (first
            | (refine load_blk rfl 40 (.tmp 1) rfl w.heap.size rfl 40 _ _ T6.out.b Tryz.underlying40 rfl (infoRs2 _ _ _) ?_)
            | (go_at_call 58; refine (HTN.out _).mono ?_; rintro e w7 ⟨rfl, hk7⟩; have T7 := hx (T6.out.kept hk7); clear hk7)
            | (refine store_blk rfl 40 (.tmp 9) (.tmp 51) rfl w7.heap.size rfl 40 _ (rsd m1 (some ⟨gr, og, none⟩) c1) rfl (Blk.new' w7 Z 40) (by rw [rsd_len]; exact HZL.out.symm) (infoRs2 _ _ _) (rsd_one _ _ _) ?_; intro w8 hb8 hk8; have T8 := hx (T7.out.kept (((Kept.refl [] w7).alloc _).trans hk8 (ds := []) (fun _ h => h) (fun x h => by simp at h; subst h; exact .inr (Nat.le_refl _)))); clear hb8 hk8))
          have chd := T8.out.b.cell (i := 166) (v := .int .i64 m1.hold) (rsd_at m1 _ c1 10)
          have hff := T8.out.b.free
          go_upto_region 12 with fail
          generalize hw9 : World.setCell w8 _ _ = w9
          have hb9 : Blk w9 w.heap.size (rsd { m1 with hold := m1.hold + 1 } (some ⟨gr, og, none⟩) c1) 40 := by
            rw [← hw9]
            have h := T8.out.b.set 166 (.int .i64 (m1.hold + 1))
            rw [show (166 : Nat) = 156 + 10 from rfl, rsd_set] at h
            exact h
          have T9 := hx (T8.out.set (show Kept [w.heap.size] w8 w9 from by rw [← hw9]; exact (Kept.refl _ _).setCell (.inl (by simp)) _) hb9)
          clear hw9 hb9 chd hff
          go_wp2_with (first
            | (refine load_blk rfl 40 (.tmp 1) rfl w.heap.size rfl 40 _ _ T9.out.b Tryz.underlying40 rfl (infoRs2 _ _ _) ?_)
            | (refine store_blk rfl 40 (.tmp 2) (.tmp 59) rfl (w.heap.size + 1) rfl 40 _ (rsd { m1 with hold := m1.hold + 1 } (some ⟨gr, og, none⟩) c1) rfl T9.out.r (by rw [rsd_len, rsd_len]) (infoRs2 _ _ _) (rsd_one _ _ _) ?_; intro w10 hb10 hk10))
          refine bodyPost_ret (Qd.ret_blk2 rfl _ (w.heap.size + 1) _ _ _ _ rfl rfl hb10 Tryz.underlying40 rfl (infoRs2 _ _ _)) rfl ?_
          rw [HF1.out]
          exact ⟨some ⟨gr, og, none⟩, c1, _, by rfl, HRL.out.kept (Kept.behind T9.out.k hk10 (by omega)), T9.out.dgR hk10, Kept.behind T9.out.k hk10 (by omega)⟩
end Go.Proofs.YtgdofgckjkmhjaaGreat.Mp
