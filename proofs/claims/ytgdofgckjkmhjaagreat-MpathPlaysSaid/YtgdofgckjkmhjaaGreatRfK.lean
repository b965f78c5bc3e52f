/- The document's sender: Tick. -/
import Derived.Test.YtgdofgckjkmhjaaGreatPk13
import Derived.Test.YtgdofgckjkmhjaaGreatPathRT
set_option linter.unusedSimpArgs false
set_option linter.unusedVariables false
namespace Go.Proofs.YtgdofgckjkmhjaaGreat.Mp
open Go Go.RowKit
open Qd (dvl dv0 dvl_one infoDg step_of)
theorem tick1_spent (m : Ms) (i : Nat) (h : 0 ≤ m.spent ∧ m.spent ≤ 1000000000000000) : m.spent ≤ (tick1 m i).1.spent ∧ (tick1 m i).1.spent ≤ m.spent + 33 := by
  have e : (m.setW i (tickP (m.way i)).1).spent = m.spent := (setW_same m i _).2.2.2.1
  unfold tick1
  split
  · show m.spent ≤ (stM (takeM (m.setW i (tickP (m.way i)).1) 33) i).spent ∧ (stM (takeM (m.setW i (tickP (m.way i)).1) 33) i).spent ≤ _
    rw [show (stM (takeM (m.setW i (tickP (m.way i)).1) 33) i).spent = (takeM (m.setW i (tickP (m.way i)).1) 33).spent from (setW_same _ _ _).2.2.2.1]
    show m.spent ≤ Mp.hold ((m.setW i (tickP (m.way i)).1).spent + 33) ∧ Mp.hold ((m.setW i (tickP (m.way i)).1).spent + 33) ≤ _
    rw [e, hold_id (by omega) (by omega)]
    omega
  · show m.spent ≤ (m.setW i (tickP (m.way i)).1).spent ∧ (m.setW i (tickP (m.way i)).1).spent ≤ _
    rw [e]
    omega
theorem acc_spent (m : Ms) (h : 0 ≤ m.spent ∧ m.spent ≤ 100000000000000) : ∀ i, i ≤ 2 → m.spent ≤ (accM m i).1.spent ∧ (accM m i).1.spent ≤ m.spent + 33 * (i : Int)
  | 0, _ => by show m.spent ≤ m.spent ∧ m.spent ≤ m.spent + 33 * ((0 : Nat) : Int); omega
  | i + 1, hi => by
    have h1 := acc_spent m h i (by omega)
    have h2 := tick1_spent (accM m i).1 i (by omega)
    show m.spent ≤ (tick1 (accM m i).1 i).1.spent ∧ (tick1 (accM m i).1 i).1.spent ≤ _
    push_cast
    omega
def RTkP (w : World) (r : Ms × List (Nat × Qd.Dv)) (a : Option Addr) (c : Nat) (e : Ending) (w' : World) : Prop :=
  ∃ v, e = .returned (.tuple #[.agg (rsd r.1 a c).toArray, v]) ∧ DgR w' v (r.2.map Prod.snd) ∧ Kept [] w w'
theorem setW_s2 (m : Ms) (i : Nat) (p : Pa) : (m.setW i p).s = m.s := (setW_same m i p).2.2.2.2.2.2.2
set_option linter.unusedSimpArgs false in
set_option maxRecDepth 100000 in
set_option maxHeartbeats 25600000 in
theorem rtick_m (m : Ms) (a : Option Addr) (c : Nat) (k t : Int) (w : World) (o : Ok m k t) (ht0 : 0 ≤ t) (ht : t ≤ 900000) (hsp : 0 ≤ m.spent ∧ m.spent ≤ 100000000000000) :
    Calls Tryz.prog 32 #[.agg (rsd m a c).toArray] w (RTkP w (tickM m) a c) := by
  obtain ⟨Z, hZ, hz⟩ := zeroRS'
  obtain ⟨Y, hY, hy⟩ := zeroRp'
  have HZL := hx (show Z.toList.length = 167 by rw [hZ, rsd_len])
  have HYL := hx (show Y.toList.length = 78 by rw [hY, rpc_len])
  have S0 := hx (rs_start m a c w Z hZ)
  have HOK := hx o
  have HSP := hx (And.intro hsp (acc_spent m hsp))
  have HT := hx (And.intro ht0 ht)
  have hnw := o.now
  clear hZ hY o hsp ht0 ht
  go_enter Tryz.func32, Tryz.ntmps32
  go_upto_region 1 with fail
  generalize (w.alloc (.cells (rsd m a c).toArray 40)).alloc (.cells Z 40) = W0 at *
  have cn := S0.out.1.cell (i := 164) (v := .int .u32 m.now) (rsd_at m a c 8)
  have hf := S0.out.1.free
  go_upto_region 2 with fail
  generalize hw1 : World.setCell W0 _ _ = W1
  obtain ⟨m1, hm1⟩ : ∃ m1, { m with now := (m.now + 1) % 4294967296 } = m1 := ⟨_, rfl⟩
  have B1 := hx (show Blk W1 w.heap.size (rsd m1 a c) 40 from by
    rw [← hw1]
    refine (show ∀ x, x = (((m.now + 1) % 4294967296 : Nat) : Int) → Blk (W0.setCell ⟨w.heap.size, 164, none⟩ (.int .u32 x)) w.heap.size (rsd m1 a c) 40 from fun x hx => by
      subst hx
      have h := S0.out.1.set 164 (.int .u32 (((m.now + 1) % 4294967296 : Nat) : Int))
      rw [show (164 : Nat) = 156 + 8 from rfl, rsd_set] at h
      rw [← hm1]
      exact h) _ ?_
    first | rfl | (push_cast; rfl) | (push_cast; omega) | (rw [IntKind.wrap_u32]; push_cast; omega))
  have R1 := hx (show Blk W1 (w.heap.size + 1) (rsd ms00 none 0) 40 from by rw [← hw1]; exact S0.out.2.1.set_ne (by simp) _)
  have K1 := hx (show Kept [] w W1 from by rw [← hw1]; exact S0.out.2.2.setCell (.inr (Nat.le_refl _)) _)
  clear hw1 cn hf S0 hnw
  have HE1 := hx (show m1.rt = m.rt ∧ m1.burst = m.burst ∧ m1.held = m.held ∧ m1.spent = m.spent ∧ m1.full = m.full by rw [← hm1]; exact ⟨rfl, rfl, rfl, rfl, rfl⟩)
  have HT0 := hx (show { m1 with held := heldT m1.rt m1.burst m1.held, spent := m1.spent, full := fullT m1.rt m1.burst m1.held m1.full } = (accM m 0).1 by rw [← hm1]; rfl)
  clear hm1
  have HBT := hx (fun W => rbtick_any m1.rt m1.burst m1.held m1.spent m1.full W (by have h := HOK.out.rt; have e := HE1.out; omega) (by have h := HOK.out.burst; have e := HE1.out; omega) (by have h := HOK.out.held; have e := HE1.out; omega) (by have h := HOK.out.full; have e := HE1.out; unfold Fits at h; omega))
  go_upto_region 3 with (first
    | (refine load_part rfl 37 (.tmp 15) rfl w.heap.size 156 rfl 40 _ (bkc m1.rt m1.burst m1.held m1.spent m1.full) _ B1.out (rsd_bk m1 a c) Tryz.underlying37 rfl infoBk ?_)
    | (go_at_call 56; refine (HBT.out _).mono ?_; rintro e w2 ⟨rfl, hk2⟩; have B2 := hx (hk2.blk B1.out (by simp)); have R2 := hx (hk2.blk R1.out (by simp)); have K2 := hx (K1.out.trans0 hk2); clear hk2)
    | (refine store_part rfl 37 (.tmp 18) (.tmp 17) rfl w.heap.size 156 rfl 40 _ (bkc m1.rt m1.burst (heldT m1.rt m1.burst m1.held) m1.spent (fullT m1.rt m1.burst m1.held m1.full)) rfl B2.out (by rw [rsd_len]; show 156 + 5 ≤ 167; omega) infoBk (bkc_one _ _ _ _ _) ?_; intro w3 hb3 hk3; rw [rsd_setB, HT0.out] at hb3; have T3 := hx (show Tk w w3 (accM m 0).1 a c w3.heap.size [] (.slice none 0 0) from ⟨hb3, hk3.blk R2.out (by simp), World.ownsRow_nil _ _ _ _, K2.out.trans hk3 (fun _ h => h) (fun g hg => by simp at hg; subst hg; exact .inr (Nat.le_refl _)), by have h1 := R2.out.lt; have h2 := hk3.size; omega, Nat.le_refl _⟩); clear hb3 hk3))
  clear B1 R1 K1 B2 R2 K2 HBT HE1 HT0
  obtain ⟨base, hbase⟩ : ∃ b, w3.heap.size = b := ⟨_, rfl⟩
  rw [hbase] at T3
  clear hbase
  go_wp2_with fail
  go_loopw [4, 5] (fun s4 s5 wr => ∃ i : Nat, s5 = .int .i64 (i : Int) ∧ i ≤ 2 ∧ Hx (Tk w wr (accM m i).1 a c base ((accM m i).2.map Prod.snd) s4)) (fun _ s5 _ => 2 - (intOf s5).toNat)
  case atStart => exact ⟨0, rfl, by omega, T3⟩
  case round =>
    clear T3
    obtain ⟨i, rfl, hi, HTK⟩ := hrel
    by_cases hlt : i < 2
    · have hl : (i : Int) < 2 := by omega
      have OKI := hx (acc_ok HOK.out HT.out.1 i)
      have HLT := hx hlt
      have HLN := hx (acc_len m i)
      obtain ⟨M, hM⟩ : ∃ M, (accM m i).1 = M := ⟨_, rfl⟩
      obtain ⟨L, hL⟩ : ∃ L, (accM m i).2 = L := ⟨_, rfl⟩
      have HNX := hx (show (accM m (i + 1)).1 = (tick1 M i).1 ∧ (accM m (i + 1)).2 = L ++ (tick1 M i).2 by rw [← hM, ← hL]; exact ⟨rfl, rfl⟩)
      have HMS := hx (show 0 ≤ M.spent ∧ M.spent ≤ 1000000000000000 by have h1 := HSP.out.2 i hi; rw [hM] at h1; have h2 := HSP.out.1; omega)
      rw [hM] at OKI HTK
      rw [hL] at HTK HLN
      clear hM hL hi
      have HW := OKI.out.way i
      have HTP := hx (fun W => rtick_any (M.way i) W HW.quiet.1 (by have := HW.quiet.2; have := HLT.out; have := HT.out; omega) HW.gap.1 HW.gap.2 HW.probe.1 HW.probe.2)
      obtain ⟨P, hP⟩ : ∃ P, (tickP (M.way i)).1 = P := ⟨_, rfl⟩
      rw [hP] at HTP
      have HT0 := hx (@tick1_none M i)
      have HT1 := hx (@tick1_some M i)
      rw [hP] at HT0 HT1
      have OKN := hx (OKI.out.setW (u := t + i + 1) (by omega) i P (by rw [← hP]; exact tick_ok _ k _ (OKI.out.way i)))
      have HSM := hx (setW_same M i P)
      clear hP HW
      obtain ⟨b, hb⟩ : ∃ b, (tickP (M.way i)).2 = b := ⟨_, rfl⟩
      rw [hb] at HTP
      go_upto_region 9 with (first
        | (refine load_part rfl 34 (.tmp 26) rfl w.heap.size (i * 78) rfl 40 _ (rpc (M.way i)) _ HTK.out.b (rsd_way M a c HLT.out) Tryz.underlying34 rfl (infoRpn _) ?_)
        | (go_at_call 57; refine (HTP.out _).mono ?_; rintro e w4 ⟨rfl, hk4⟩; have T4 := hx (HTK.out.kept hk4); clear hk4)
        | (refine store_blk rfl 34 (.tmp 6) (.tmp 29) rfl w4.heap.size rfl 34 _ (rpc P) rfl (Blk.new' w4 Y 34) (by rw [rpc_len]; exact HYL.out.symm) (infoRpn _) (rpc_one _) ?_; intro w5 hb5 hk5; have B5 := hx hb5; have T5 := hx (T4.out.kept (((Kept.refl [] w4).alloc _).trans hk5 (ds := []) (fun _ h => h) (fun x h => by simp at h; subst h; exact .inr (Nat.le_refl _)))); clear hb5 hk5)
        | (refine load_blk rfl 34 (.tmp 6) rfl w4.heap.size rfl 34 _ _ B5.out Tryz.underlying34 rfl (infoRpn _) ?_)
        | (refine store_part rfl 34 (.tmp 34) (.tmp 32) rfl w.heap.size (i * 78) rfl 40 _ (rpc P) rfl T5.out.b (by rw [rsd_len, rpc_len]; have := HLT.out; omega) (infoRpn _) (rpc_one _) ?_; intro w6 hb6 hk6; rw [rsd_setW _ _ _ HLT.out] at hb6; have T6 := hx (T5.out.set hk6 hb6); clear hb6 hk6))
      clear HTP
      cases b with
      | false =>
        have HE := hx (HT0.out (by rw [hb]; simp))
        clear hb HT0 HT1
        go_wp2_with fail
        go_roundw
        case rel =>
          refine ⟨i + 1, by push_cast; rfl, by have := HLT.out; omega, ?_⟩
          rw [HNX.out.1, HNX.out.2, HE.out, List.append_nil]
          exact T6
        case measure =>
          simp only [intOf]
          have := HLT.out
          omega
      | true =>
        have hhd := HSM.out.2.2.1
        have hspe := HSM.out.2.2.2.1
        by_cases h33 : 33 ≤ M.held
        · have HE := hx (HT1.out ⟨hb, h33⟩)
          have HTA := hx (fun W => show Calls Tryz.prog 58 #[.agg (rsd (M.setW i P) a c).toArray, .int .i64 33] W (fun e w' => e = .returned (.tuple #[.agg (rsd (takeM (M.setW i P) 33) a c).toArray, .bool true]) ∧ Kept [] W w') from by
            have h := rtake_m (M.setW i P) a c 33 W (by omega) (by have h1 := OKN.out.held; have h2 := OKN.out.burst; omega) (by rw [hspe]; exact HMS.out)
            unfold RTaP at h
            rw [if_pos (by rw [hhd]; exact h33), decide_eq_true (by rw [hhd]; exact h33)] at h
            exact h)
          have hnx : ((takeM (M.setW i P) 33).way i).next < 4294967296 := (OKN.out.way i).next
          have hse : (M.setW i P).sess = M.sess := setW_sess M i P
          obtain ⟨M5, hM5⟩ : ∃ M5, takeM (M.setW i P) 33 = M5 := ⟨_, rfl⟩
          rw [hM5] at HE HTA hnx
          have HST := hx (fun (W : World) (d : Qd.Dv) => rstamp_m M5 a c i d W HLT.out hnx)
          clear hM5 hnx hb HT0 HT1 hhd hspe h33
          go_upto_region 11 with (first
            | (refine load_blk rfl 40 (.tmp 1) rfl w.heap.size rfl 40 _ _ T6.out.b Tryz.underlying40 rfl (infoRs2 _ _ _) ?_)
            | (go_at_call 58; refine (HTA.out _).mono ?_; rintro e w7 ⟨rfl, hk7⟩; have T7 := hx (T6.out.kept hk7); clear hk7)
            | (refine store_blk rfl 40 (.tmp 8) (.tmp 40) rfl w7.heap.size rfl 40 _ (rsd M5 a c) rfl (Blk.new' w7 Z 40) (by rw [rsd_len]; exact HZL.out.symm) (infoRs2 _ _ _) (rsd_one _ _ _) ?_; intro w8 hb8 hk8; have B8 := hx hb8; have T8 := hx (T7.out.kept (((Kept.refl [] w7).alloc _).trans hk8 (ds := []) (fun _ h => h) (fun x h => by simp at h; subst h; exact .inr (Nat.le_refl _)))); clear hb8 hk8))
          clear HTA T6 T7
          go_upto_region 13 with fail
          generalize hw9 : World.alloc w8 _ = w9
          have D9 := hx (show Blk w9 w8.heap.size (dvl dv0) 50 from by rw [← hw9]; exact Blk.new w8 (dvl dv0) 50)
          have K9 := hx (show Kept [] w8 w9 from by rw [← hw9]; exact (Kept.refl _ _).alloc _)
          have T9 := hx (T8.out.kept K9.out)
          have B9 := hx (K9.out.blk B8.out (by simp))
          have hcs := T9.out.b.cell (i := 163) (v := .int .u32 (M.setW i P).sess) (rsd_at _ a c 7)
          rw [hse] at hcs
          obtain ⟨g10, hg10⟩ : ∃ g, w8.heap.size = g := ⟨_, rfl⟩
          have HG := hx (show w.heap.size < g10 from by have h1 := T8.out.hb; have h2 := T8.out.hz; omega)
          rw [hg10] at D9
          rw [hg10]
          have HG10 := hx hg10
          clear hw9 hse hg10
          go_upto_region 14 with (first
            | (refine load_blk rfl 40 (.tmp 8) rfl w7.heap.size rfl 40 _ _ B9.out Tryz.underlying40 rfl (infoRs2 _ _ _) ?_)
            | (refine wpList_built rfl 50 _ rfl _ [(0, .int .i64 7), (1, .int .u32 (M.sess : Int))] (by simp only [List.map_toArray, List.map_cons, List.map_nil]; rfl) (builtKeep M) ?_)
            | (go_at_call 59; refine (HST.out _ (keepD M)).mono ?_; rintro e w10 ⟨rfl, hk10⟩; have T10 := hx (T9.out.kept hk10); have D10 := hx (hk10.blk D9.out (by simp)); have K10 := hx (K9.out.trans0 hk10); clear hk10)
            | (refine store_blk rfl 40 (.tmp 1) (.tmp 50) rfl w.heap.size rfl 40 _ (rsd (stM M5 i) a c) rfl T10.out.b (by rw [rsd_len, rsd_len]) (infoRs2 _ _ _) (rsd_one _ _ _) ?_; intro w11 hb11 hk11; have B11 := hx hb11; have D11 := hx (hk11.blk D10.out (by have := HG.out; simp; omega)); have K11 := hx (show Kept [w.heap.size] w8 w11 from (K10.out.mono (by simp)).trans hk11 (fun _ h => h) (fun g hg => .inl hg)); clear hb11 hk11)
            | (refine store_blk rfl 50 (.tmp 10) (.tmp 51) rfl g10 rfl 50 _ (dvl (stD M5 i (keepD M))) rfl D11.out rfl infoDg (dvl_one _) ?_; intro w12 hb12 hk12; have D12 := hx hb12; have T12 := hx (T8.out.set (K11.out.trans hk12 (fun _ h => h) (fun g hg => by simp at hg; subst hg; exact .inr (by have := HG10.out; omega))) (hk12.blk B11.out (by have := HG.out; simp; omega))); clear hb12 hk12))
          clear hcs T9 B9 D9 T10 D10 K10 B11 D11 K11 K9 B8 T8 HST
          go_wp2_with (first
            | (refine load_blk rfl 50 (.tmp 10) rfl g10 rfl 50 _ _ D12.out Tryz.underlying50 rfl infoDg ?_)
            | (refine wpList_bs1 rfl 93 50 (.tmp 53) rfl 11 88 _ infoDg3 (dvl (stD M5 i (keepD M))) rfl rfl (by omega) (by omega) Tryz.underlying93 ?_; intro w13 hb13 hk13; have B13 := hx hb13; have T13 := hx (T12.out.kept hk13); clear hb13 hk13)
            | (refine dg_app rfl (.tmp 52) (.tmp 54) rfl base _ (L.map Prod.snd) rfl T13.out.row w12.heap.size (stD M5 i (keepD M)) rfl B13.out (by rw [List.length_map]; have := HLN.out; have := HLT.out; omega) T13.out.hz ?_; intro v14 w14 ho14 hg14; have T14 := hx (T13.out.grow hg14 ho14); clear ho14 hg14))
          go_roundw
          case rel =>
            refine ⟨i + 1, by push_cast; rfl, by have := HLT.out; omega, ?_⟩
            rw [HNX.out.1, HNX.out.2, HE.out, List.map_append]
            exact T14
          case measure =>
            simp only [intOf]
            have := HLT.out
            omega
        · have HE := hx (HT0.out (by rw [hb]; simp; omega))
          have HTA := hx (fun W => show Calls Tryz.prog 58 #[.agg (rsd (M.setW i P) a c).toArray, .int .i64 33] W (fun e w' => e = .returned (.tuple #[.agg (rsd (M.setW i P) a c).toArray, .bool false]) ∧ Kept [] W w') from by
            have h := rtake_m (M.setW i P) a c 33 W (by omega) (by have h1 := OKN.out.held; have h2 := OKN.out.burst; omega) (by rw [hspe]; exact HMS.out)
            unfold RTaP at h
            rw [if_neg (by rw [hhd]; exact h33), decide_eq_false (by rw [hhd]; exact h33)] at h
            exact h)
          clear hb HT0 HT1 hhd hspe h33
          go_wp2_with (first
            | (refine load_blk rfl 40 (.tmp 1) rfl w.heap.size rfl 40 _ _ T6.out.b Tryz.underlying40 rfl (infoRs2 _ _ _) ?_)
            | (go_at_call 58; refine (HTA.out _).mono ?_; rintro e w7 ⟨rfl, hk7⟩; have T7 := hx (T6.out.kept hk7); clear hk7)
            | (refine store_blk rfl 40 (.tmp 8) (.tmp 40) rfl w7.heap.size rfl 40 _ (rsd (M.setW i P) a c) rfl (Blk.new' w7 Z 40) (by rw [rsd_len]; exact HZL.out.symm) (infoRs2 _ _ _) (rsd_one _ _ _) ?_; intro w8 hb8 hk8; have T8 := hx (T7.out.kept (((Kept.refl [] w7).alloc _).trans hk8 (ds := []) (fun _ h => h) (fun x h => by simp at h; subst h; exact .inr (Nat.le_refl _)))); clear hb8 hk8))
          go_roundw
          case rel =>
            refine ⟨i + 1, by push_cast; rfl, by have := HLT.out; omega, ?_⟩
            rw [HNX.out.1, HNX.out.2, HE.out, List.append_nil]
            exact T8
          case measure =>
            simp only [intOf]
            have := HLT.out
            omega
    · obtain rfl : i = 2 := by omega
      clear hi hlt
      go_wp2_with (first
        | (refine load_blk rfl 40 (.tmp 1) rfl w.heap.size rfl 40 _ _ HTK.out.b Tryz.underlying40 rfl (infoRs2 _ _ _) ?_)
        | (refine store_blk rfl 40 (.tmp 2) (.tmp 56) rfl (w.heap.size + 1) rfl 40 _ _ rfl HTK.out.r (by rw [rsd_len, rsd_len]) (infoRs2 _ _ _) (rsd_one _ _ _) ?_; intro w5 hb5 hk5))
      exact bodyPost_ret (Qd.ret_blk2 rfl _ (w.heap.size + 1) _ _ _ _ rfl rfl hb5 Tryz.underlying40 rfl (infoRs2 _ _ _)) rfl ⟨_, by rfl, HTK.out.dgR hk5, Kept.behind HTK.out.k hk5 (by omega)⟩
end Go.Proofs.YtgdofgckjkmhjaaGreat.Mp
