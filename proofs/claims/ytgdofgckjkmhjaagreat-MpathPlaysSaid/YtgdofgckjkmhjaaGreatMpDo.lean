/- MpathPlays: the law's do, each kind of call. Printed by k/gen_mpdo.py. -/
import Derived.Test.YtgdofgckjkmhjaaGreatPk21
import Derived.Test.YtgdofgckjkmhjaaGreatMpTr
import Derived.Test.YtgdofgckjkmhjaaGreatPk16
import Derived.Test.YtgdofgckjkmhjaaGreatRfH
import Derived.Test.YtgdofgckjkmhjaaGreatPathRH
set_option linter.unusedSimpArgs false
set_option linter.unusedVariables false
namespace Go.Proofs.YtgdofgckjkmhjaaGreat.Mp
open Go Go.RowKit
open Qd (dvl dv0 dvl_one infoDg step_of take_by)
/-- A trip at both. -/
theorem trip_both {w wr : World} {s b q : Nat} {v : Value} {m : Ms} {a : Option Addr} {c : Nat} {sd : List Qd.It} {k t B wy : Int} {th : Nat} (h : PlI w wr s b q v m a c sd k t B) (hth : th < 4294967296) (hk : 0 ≤ k ∧ k < 60) :
    ∃ m2 : Ms, (∀ W, Kept [] wr W → Calls Tryz.prog 38 #[.pointer (some ⟨s, 0, none⟩), .int .i64 wy, .int .u32 (th : Int)] W (fun e w' => e = .returned (.tuple #[]) ∧ Sr w' s b q v m2 ∧ Kept [s] W w')) ∧
      (∀ W, Calls Tryz.prog 39 #[.agg (rsd (m.wS sd) a c).toArray, .int .i64 wy, .int .u32 (th : Int)] W (fun e w' => e = .returned (.agg (rsd (m2.wS sd) a c).toArray) ∧ Kept [] W w')) ∧ Ok m2 (k + 1) t ∧ m2.s = m.s ∧ (0 ≤ m2.spent ∧ m2.spent + m2.held ≤ B) := by
  by_cases hno : wy < 0 ∨ 1 < wy ∨ 2000 < ago m.now th
  · exact ⟨m, fun W hk => (trip_no s b q v m wy th W (h.sr.kept hk) h.ok.now hth hno).mono (fun e w' g => ⟨g.1, by rw [← g.2]; exact h.sr.kept hk, by rw [← g.2]; exact Kept.refl _ _⟩), fun W => rtrip_no (m.wS sd) a c th wy W h.ok.now hth hno, h.ok.mono2 (by omega) (Int.le_refl _), rfl, h.sp⟩
  · obtain ⟨j, rfl⟩ : ∃ j : Nat, wy = (j : Int) := ⟨wy.toNat, by omega⟩
    have hj : j < 2 := by omega
    have hb : ago m.now th ≤ 2000 := by omega
    have hw := h.ok.way j
    have hst : StOk (m.way j).s 1000000 := hw.s.mono (by omega)
    have e := setW_same m j { m.way j with s := tripS (m.way j).s (ago m.now th) }
    refine ⟨tripW m j (ago m.now th), fun W hk => trip_yes s b q v m j th W (h.sr.kept hk) hj hst h.ok.now hth hb, fun W => ?_, (h.ok.mono2 (k2 := k + 1) (by omega) (Int.le_refl _)).setW (Int.le_refl _) j _ (tripP_ok _ _ _ _ hw), e.2.2.2.2.2.2.2, ?_⟩
    · have g := rtrip_yes (m.wS sd) a c j th W hj (by rw [way_wS]; exact hst) h.ok.now hth hb
      rw [show tripW (m.wS sd) j (ago (m.wS sd).now th) = (tripW m j (ago m.now th)).wS sd from trip_like m sd j _] at g
      exact g
    · show 0 ≤ (m.setW j _).spent ∧ (m.setW j _).spent + (m.setW j _).held ≤ B
      rw [e.2.2.2.1, e.2.2.1]
      exact h.sp
set_option linter.unusedSimpArgs false in
set_option maxRecDepth 100000 in
set_option maxHeartbeats 12800000 in
theorem do_none (w wz : World) (s b q : Nat) (v : Value) (m : Ms) (a : Option Addr) (c : Nat) (sd : List Qd.It) (k t B rk : Int) (d : Dg) (p : Option Addr) (cc : Nat) (nn wy : Int) (th : Nat) (kd : Int) (I : PlI w wz s b q v m a c sd k t B) (hk : 0 ≤ k ∧ k < 60) (ht : 0 ≤ t ∧ t ≤ 100000) (hB : B ≤ 1000000000000) (hd : Bts w p d.data.length cc d.data) (hth : th < 4294967296)(h0 : kd ≠ 0) (h1 : kd ≠ 1) (h2 : kd ≠ 2) (h3 : kd ≠ 3) (h4 : kd ≠ 4) (h5 : kd ≠ 5) :
    Calls Tryz.prog 12 #[.pointer (some ⟨s, 0, none⟩), .agg (rsd (m.wS sd) a c).toArray, .agg (oqc ⟨kd, rk, d, p, cc, nn, wy, th⟩).toArray] wz (DoP w wz s b q v (k + 1) (t + 301) (B + 157286400)) := by
  obtain ⟨Z, hZ, hz⟩ := zeroRS'
  have HZL := hx (show Z.toList.length = 167 by rw [hZ, rsd_len])
  have HI := hx I
  have HN := hx (And.intro hk (And.intro ht hB))
  have HD := hx hd
  have HTH := hx hth
  have k0 : (kd == 0) = false := beq_eq_false_iff_ne.2 h0
  have k1 : (kd == 1) = false := beq_eq_false_iff_ne.2 h1
  have k2 : (kd == 2) = false := beq_eq_false_iff_ne.2 h2
  have k3 : (kd == 3) = false := beq_eq_false_iff_ne.2 h3
  have k4 : (kd == 4) = false := beq_eq_false_iff_ne.2 h4
  have k5 : (kd == 5) = false := beq_eq_false_iff_ne.2 h5
  clear h0 h1 h2 h3 h4 h5
  clear I hk ht hB hd hth
  go_enter Tryz.func12, Tryz.ntmps12
  go_upto_region 1 with fail
  generalize hw0 : World.alloc (World.alloc (World.alloc wz _) _) _ = W0
  obtain ⟨x0, k0⟩ := do_start (m.wS sd) a c _ wz Z hZ hw0
  have X0 := hx x0
  have K0 := hx k0
  have HWS := hx (show w.heap.size ≤ wz.heap.size from HI.out.kept.size)
  have o0 := x0.d.cell (i := 0) (v := .int .i64 kd) rfl
  clear hw0 x0 k0 hZ
  go_wp2_with (first
    | (refine load_blk rfl 40 (.tmp 4) rfl wz.heap.size rfl 40 _ _ X0.out.b Tryz.underlying40 rfl (infoRs2 _ _ _) ?_)
    | (refine store_blk rfl 40 (.tmp 6) (.tmp 24) rfl (wz.heap.size + 2) rfl 40 _ (rsd (m.wS sd) a c) rfl X0.out.r (by rw [rsd_len, rsd_len]) (infoRs2 _ _ _) (rsd_one _ _ _) ?_; intro w8 hb8 hk8))
  refine bodyPost_ret (Qd.ret_blk2 rfl _ (wz.heap.size + 2) _ _ _ _ rfl rfl hb8 Tryz.underlying40 rfl (infoRs2 _ _ _)) rfl ?_
  refine ⟨v, m, a, c, sd, rfl, (HI.out.keep K0.out).box X0.out.r hk8 (by have := HWS.out; omega) |>.mono (by omega) (by omega) (by omega), kept_fin K0.out ((Kept.refl [] _).mono (by simp)) hk8 (by omega)⟩
set_option linter.unusedSimpArgs false in
set_option maxRecDepth 100000 in
set_option maxHeartbeats 12800000 in
theorem do_push (w wz : World) (s b q : Nat) (v : Value) (m : Ms) (a : Option Addr) (c : Nat) (sd : List Qd.It) (k t B rk : Int) (d : Dg) (p : Option Addr) (cc : Nat) (nn wy : Int) (th : Nat) (I : PlI w wz s b q v m a c sd k t B) (hk : 0 ≤ k ∧ k < 60) (ht : 0 ≤ t ∧ t ≤ 100000) (hB : B ≤ 1000000000000) (hd : Bts w p d.data.length cc d.data) (hth : th < 4294967296) :
    Calls Tryz.prog 12 #[.pointer (some ⟨s, 0, none⟩), .agg (rsd (m.wS sd) a c).toArray, .agg (oqc ⟨0, rk, d, p, cc, nn, wy, th⟩).toArray] wz (DoP w wz s b q v (k + 1) (t + 301) (B + 157286400)) := by
  obtain ⟨Z, hZ, hz⟩ := zeroRS'
  have HZL := hx (show Z.toList.length = 167 by rw [hZ, rsd_len])
  have HI := hx I
  have HN := hx (And.intro hk (And.intro ht hB))
  have HD := hx hd
  have HTH := hx hth
  clear I hk ht hB hd hth
  go_enter Tryz.func12, Tryz.ntmps12
  go_upto_region 1 with fail
  generalize hw0 : World.alloc (World.alloc (World.alloc wz _) _) _ = W0
  obtain ⟨x0, k0⟩ := do_start (m.wS sd) a c _ wz Z hZ hw0
  have X0 := hx x0
  have K0 := hx k0
  have HWS := hx (show w.heap.size ≤ wz.heap.size from HI.out.kept.size)
  have o0 := x0.d.cell (i := 0) (v := .int .i64 0) rfl
  clear hw0 x0 k0 hZ
  obtain ⟨ec, hec⟩ : ∃ z, chk (pushD m d) = z := ⟨_, rfl⟩
  have HEC := hx hec
  have HPU := hx (fun (W : World) (hk : Kept [] wz W) => show Calls Tryz.prog 7 #[.pointer (some ⟨s, 0, none⟩), .int .i64 rk, .agg (dgl d p cc).toArray] W (fun e w' => e = .returned (.int .i64 ec) ∧ PushQ W s b q v m rk d e w') from
    (push_m s b q v m k t rk d p d.data.length cc W (HI.out.sr.kept hk) HI.out.ok (by have := HN.out; omega) (HD.out.kept (HI.out.kept.trans0 hk))).mono (fun e w' h => ⟨by rw [h.1, hec], h⟩))
  have HRP := hx (fun (W : World) (hk : Kept [] wz W) => show Calls Tryz.prog 31 #[.agg (rsd (m.wS sd) a c).toArray, .int .i64 rk, .agg (dgl d p cc).toArray] W (fun e w' => ∃ a1 c1 m1, e = .returned (.tuple #[.agg (rsd m1 a1 c1).toArray, .int .i64 ec]) ∧ RL w' a1 c1 m1.s ∧ Kept [] W w' ∧ m1 = if chk (pushD m d) = 0 then pushR (m.wS sd) rk ⟨pushD m d, p, cc⟩ else m.wS sd) from
    (rpush_m (m.wS sd) a c rk d p cc W (HI.out.rl.kept hk) (HD.out.kept (HI.out.kept.trans0 hk)) HI.out.ok.room (HI.out.ok.wS HI.out.lk).len (by have h1 := HI.out.ok.drop; have h2 := HN.out; show 0 ≤ m.drop ∧ m.drop ≤ 1000000; omega)).mono (fun e w' h => by
      obtain ⟨a1, c1, m1, h1, h2, h3, h4⟩ := h
      rw [show chk (pushD (m.wS sd) d) = ec from hec] at h1
      exact ⟨a1, c1, m1, h1, h2, h3, h4⟩))
  clear hec
  have o1 := X0.out.d.cell (i := 1) (v := .int .i64 rk) rfl
  have hr2 : W0.rangeAt (wz.heap.size + 1) 2 (dgl d p cc) := by have h := oqc_dg (o := 0) X0.out.d.range; rw [Nat.zero_add] at h; exact h
  go_upto_region 4 with fail
  clear o0
  go_upto_region 5 with (first
    | (refine load_blk rfl 40 (.tmp 4) rfl wz.heap.size rfl 40 _ _ X0.out.b Tryz.underlying40 rfl (infoRs2 _ _ _) ?_)
    | (refine wpList_load_mid rfl 50 (.tmp 31) rfl (wz.heap.size + 1) 2 rfl (dgl d p cc) _ hr2 Tryz.underlying50 rfl infoDg ?_)
    | (go_at_call 31; refine (HRP.out _ K0.out).mono ?_; rintro e w1 ⟨a1, c1, m1, rfl, hr1, hk1, hm1⟩; have R1 := hx hr1; have K1 := hx (K0.out.trans0 hk1); have X1 := hx (X0.out.kept hk1); have M1 := hx hm1; clear hr1 hk1 hm1)
    | (refine store_blk rfl 40 (.tmp 8) (.tmp 34) rfl w1.heap.size rfl 40 _ (rsd m1 a1 c1) rfl (Blk.new' w1 Z 40) (by rw [rsd_len]; exact HZL.out.symm) (infoRs2 _ _ _) (rsd_one _ _ _) ?_; intro w2 hb2 hk2; have B2 := hx hb2; have KN2 := hx (((Kept.refl [] w1).alloc _).trans hk2 (ds := []) (fun _ h => h) (fun x h => by simp at h; subst h; exact .inr (Nat.le_refl _))); clear hb2 hk2))
  have R2 := hx (R1.out.kept KN2.out)
  have K2 := hx (K1.out.trans0 KN2.out)
  have X2 := hx (X1.out.kept KN2.out)
  obtain ⟨g8, hg8⟩ : ∃ g, w1.heap.size = g := ⟨_, rfl⟩
  rw [hg8] at B2
  rw [hg8]
  have HG8 := hx (show g8 ≠ wz.heap.size + 2 from by have h := X1.out.r.lt; omega)
  have HSK := hx (fun (W : World) (hd4 : Blk W (wz.heap.size + 1) (oqc ⟨0, rk, d, p, cc, nn, wy, th⟩) 58) (hb : Blk W g8 (rsd m1 a1 c1) 40) => show (fun w3 => w3.cell? ⟨wz.heap.size + 1, 1, none⟩ = some (.int .i64 rk) ∧ w3.rangeAt (wz.heap.size + 1) 2 (dgl d p cc) ∧ w3.rangeAt g8 0 (rsd m1 a1 c1)) W from ⟨hd4.cell (i := 1) rfl, (by have h := oqc_dg (o := 0) hd4.range; rw [Nat.zero_add] at h; exact h), hb.range⟩)
  clear o1 hr2 hg8
  refine wp_region_held_drew (S := (fun w3 => w3.cell? ⟨wz.heap.size + 1, 1, none⟩ = some (.int .i64 rk) ∧ w3.rangeAt (wz.heap.size + 1) 2 (dgl d p cc) ∧ w3.rangeAt g8 0 (rsd m1 a1 c1))) (by kernel_rfl) (HSK.out _ (X2.out.kept (Kept.drew (Kept.refl [] w2))).d ((Kept.drew (Kept.refl [] w2)).blk B2.out (by simp))) (fun hHeld => ?_)
  refine take_by 0 36 (v := .agg (rsd m1 a1 c1).toArray) rfl rfl (by kernel_rfl) (by kernel_rfl) (by kernel_rfl) (fun _ _ _ h => h) (yieldsIf_load_mid (by rfl) 40 (.tmp 8) rfl g8 0 rfl (rsd m1 a1 c1) _ (fun _ hS => hS.2.2) Tryz.underlying40 rfl (infoRs2 _ _ _)) (by assumption) ?_
  try simp only [List.setIfInBounds_toArray, List.set_cons_zero, List.set_cons_succ]
  refine take_by 1 37 (v := ?_) rfl rfl (by kernel_rfl) (by kernel_rfl) (by kernel_rfl) (fun _ _ _ h => h) (Or.inl ⟨by rfl, ?_⟩) (by assumption) ?_
  rotate_left
  · (intro w hSw; (try dsimp only at hSw); go_simp; try with_reducible rfl)
  try simp only [List.setIfInBounds_toArray, List.set_cons_zero, List.set_cons_succ]
  refine take_by 2 38 (v := ?_) rfl rfl (by kernel_rfl) (by kernel_rfl) (by kernel_rfl) (fun _ _ _ h => h) (Or.inl ⟨by rfl, ?_⟩) (by assumption) ?_
  rotate_left
  · (intro w hSw; (try dsimp only at hSw); go_simp; try with_reducible rfl)
  try simp only [List.setIfInBounds_toArray, List.set_cons_zero, List.set_cons_succ]
  refine take_by 3 39 (v := ?_) rfl rfl (by kernel_rfl) (by kernel_rfl) (by kernel_rfl) (fun _ _ _ h => h) (Or.inl ⟨by rfl, ?_⟩) (by assumption) ?_
  rotate_left
  · (intro w hSw; (try dsimp only at hSw); go_simp; try with_reducible rfl)
  try simp only [List.setIfInBounds_toArray, List.set_cons_zero, List.set_cons_succ]
  refine take_by 4 40 (v := ?_) rfl rfl (by kernel_rfl) (by kernel_rfl) (by kernel_rfl) (fun _ _ _ h => h) (Or.inl ⟨by rfl, ?_⟩) (by assumption) ?_
  rotate_left
  · (intro w hSw; (try dsimp only at hSw); go_simp; try with_reducible rfl)
  try simp only [List.setIfInBounds_toArray, List.set_cons_zero, List.set_cons_succ]
  refine take_by 5 41 (v := .agg (dgl d p cc).toArray) rfl rfl (by kernel_rfl) (by kernel_rfl) (by kernel_rfl) (fun _ _ _ h => h) (yieldsIf_load_mid (by rfl) 50 (.tmp 40) rfl (wz.heap.size + 1) (2) rfl (dgl d p cc) _ (fun _ hS => hS.2.1) Tryz.underlying50 rfl (by kernel_rfl)) (by assumption) ?_
  try simp only [List.setIfInBounds_toArray, List.set_cons_zero, List.set_cons_succ]
  refine take_by 7 43 (v := ?_) rfl rfl (by kernel_rfl) (by kernel_rfl) (by kernel_rfl) (fun _ _ _ h => h) (Or.inl ⟨by rfl, ?_⟩) (by assumption) ?_
  rotate_left
  · (intro w hSw; (try dsimp only at hSw); go_simp; try with_reducible rfl)
  try simp only [List.setIfInBounds_toArray, List.set_cons_zero, List.set_cons_succ]
  refine wpAnyH_ready (rs := [6]) (by kernel_rfl) (by simp) ?_
  refine AllReadyH.cons rfl (fun K hK => ?_) AllReadyH.nil
  go_simp
  (go_at_call 7; refine (HPU.out _ (K2.out.trans0 (Kept.drew (Kept.refl [] w2)))).mono ?_; rintro e w5 ⟨rfl, hp5⟩; have P5 := hx hp5; have KO5 := hx (show Kept (own s b q v) w2.drew w5 from hp5.2.choose_spec.choose_spec.2.1); have X5 := hx ((X2.out.kept (Kept.drew (Kept.refl [] w2))).but (HI.out.sr.kept (K2.out.trans0 (Kept.drew (Kept.refl [] w2)))) KO5.out); have B5 := hx (KO5.out.blk ((Kept.drew (Kept.refl [] w2)).blk B2.out (by simp)) ((HI.out.sr.kept (K2.out.trans0 (Kept.drew (Kept.refl [] w2)))).not_own ((Kept.drew (Kept.refl [] w2)).blk B2.out (by simp)) (by decide) (by decide) (by decide) (by decide))); clear hp5)
  refine hK.out _ _ (HSK.out _ X5.out.d B5.out) (fun hHeld => ?_)
  clear hK K
  try simp only [Act.put, List.setIfInBounds_toArray, List.set_cons_zero, List.set_cons_succ]
  refine take_by 8 44 (v := ?_) rfl rfl (by kernel_rfl) (by kernel_rfl) (by kernel_rfl) (fun _ _ _ h => h) (Or.inl ⟨by rfl, ?_⟩) (by assumption) ?_
  rotate_left
  · (intro w hSw; (try dsimp only at hSw); go_simp; try with_reducible rfl)
  try simp only [List.setIfInBounds_toArray, List.set_cons_zero, List.set_cons_succ]
  refine wpAnyH_ready (rs := [9]) (by kernel_rfl) (by simp) ?_
  refine AllReadyH.cons rfl (fun K hK => ?_) AllReadyH.nil
  refine Qd.step_storeB rfl 40 (.tmp 6) (.tmp 36) rfl (wz.heap.size + 2) rfl 40 (rsd ms00 none 0) (rsd m1 a1 c1) rfl X5.out.r (by rw [rsd_len, rsd_len]) (infoRs2 _ _ _) (rsd_one _ _ _) ?_
  intro w8 hb8 hk8
  have B8 := hx hb8
  have K8 := hx hk8
  clear hb8 hk8
  refine hK.out _ _ (HSK.out _ (K8.out.blk X5.out.d (by simp)) (K8.out.blk B5.out (by have := HG8.out; simp; omega))) (fun _ => ?_)
  clear hK K
  try simp only [Act.put, List.getElem_toArray, List.getElem_cons_succ, List.getElem_cons_zero, List.setIfInBounds_toArray, List.set_cons_zero, List.set_cons_succ]
  refine take_by 10 7 (v := ?_) rfl rfl (by kernel_rfl) (by kernel_rfl) (by kernel_rfl) (fun _ _ _ h => h) (Or.inl ⟨by rfl, ?_⟩) (by assumption) ?_
  rotate_left
  · (intro w hSw; (try dsimp only at hSw); go_simp; try with_reducible rfl)
  try simp only [List.setIfInBounds_toArray, List.set_cons_zero, List.set_cons_succ]
  refine wpAnyH_done (by kernel_rfl) ?_ _
  go_wp2_with fail
  refine bodyPost_ret (Qd.ret_blk2 rfl _ (wz.heap.size + 2) _ _ _ _ rfl rfl B8.out Tryz.underlying40 rfl (infoRs2 _ _ _)) rfl ?_
  obtain ⟨v2, m2, sd2, e2, hp2⟩ := pl_push HI.out (K2.out.trans0 (Kept.drew (Kept.refl [] w2))) HD.out (R2.out.kept (Kept.drew (Kept.refl [] w2))) M1.out P5.out
  exact ⟨v2, m2, a1, c1, sd2, by rw [e2]; rfl, (hp2.box X5.out.r K8.out (by have := HWS.out; omega)).mono (by omega) (by omega) (by omega), kept_fin (K2.out.trans0 (Kept.drew (Kept.refl [] w2))) KO5.out K8.out (by omega)⟩
set_option linter.unusedSimpArgs false in
set_option maxRecDepth 100000 in
set_option maxHeartbeats 12800000 in
theorem do_flush (w wz : World) (s b q : Nat) (v : Value) (m : Ms) (a : Option Addr) (c : Nat) (sd : List Qd.It) (k t B rk : Int) (d : Dg) (p : Option Addr) (cc : Nat) (nn wy : Int) (th : Nat) (I : PlI w wz s b q v m a c sd k t B) (hk : 0 ≤ k ∧ k < 60) (ht : 0 ≤ t ∧ t ≤ 100000) (hB : B ≤ 1000000000000) (hd : Bts w p d.data.length cc d.data) (hth : th < 4294967296) :
    Calls Tryz.prog 12 #[.pointer (some ⟨s, 0, none⟩), .agg (rsd (m.wS sd) a c).toArray, .agg (oqc ⟨2, rk, d, p, cc, nn, wy, th⟩).toArray] wz (DoP w wz s b q v (k + 1) (t + 301) (B + 157286400)) := by
  obtain ⟨Z, hZ, hz⟩ := zeroRS'
  have HZL := hx (show Z.toList.length = 167 by rw [hZ, rsd_len])
  have HI := hx I
  have HN := hx (And.intro hk (And.intro ht hB))
  have HD := hx hd
  have HTH := hx hth
  clear I hk ht hB hd hth
  go_enter Tryz.func12, Tryz.ntmps12
  go_upto_region 1 with fail
  generalize hw0 : World.alloc (World.alloc (World.alloc wz _) _) _ = W0
  obtain ⟨x0, k0⟩ := do_start (m.wS sd) a c _ wz Z hZ hw0
  have X0 := hx x0
  have K0 := hx k0
  have HWS := hx (show w.heap.size ≤ wz.heap.size from HI.out.kept.size)
  have o0 := x0.d.cell (i := 0) (v := .int .i64 2) rfl
  clear hw0 x0 k0 hZ
  obtain ⟨rd, hrd⟩ : ∃ r, flushM (m.wS sd) = r := ⟨_, rfl⟩
  have HRD := hx hrd
  have HFL := hx (fun (W : World) (hk : Kept [] wz W) => flush_m s b q v m k t W (HI.out.sr.kept hk) HI.out.ok (by have := HN.out; omega) (by have := HN.out; omega))
  have HRF := hx (fun (W : World) (hk : Kept [] wz W) => show Calls Tryz.prog 35 #[.agg (rsd (m.wS sd) a c).toArray] W (RFlP W rd) from by
    rw [← hrd]
    exact rflush_m (m.wS sd) a c k t W (HI.out.rl.kept hk) (HI.out.ok.wS HI.out.lk) (by have := HN.out; omega) (by have := HN.out; omega) (by have h1 := HI.out.sp; have h2 := HN.out; show 0 ≤ m.spent ∧ m.spent + m.held ≤ 100000000000000; omega))
  clear hrd
  go_upto_region 16 with fail
  clear o0
  go_upto_region 17 with (first
    | (refine load_blk rfl 40 (.tmp 4) rfl wz.heap.size rfl 40 _ _ X0.out.b Tryz.underlying40 rfl (infoRs2 _ _ _) ?_)
    | (go_at_call 35; refine (HRF.out _ K0.out).mono ?_; rintro e w1 ⟨a1, c1, u1, rfl, hr1, hd1, hk1⟩; have R1 := hx hr1; have D1 := hx hd1; have K1 := hx (K0.out.trans0 hk1); have X1 := hx (X0.out.kept hk1); clear hr1 hd1 hk1)
    | (refine store_blk rfl 40 (.tmp 13) (.tmp 75) rfl w1.heap.size rfl 40 _ (rsd rd.1 a1 c1) rfl (Blk.new' w1 Z 40) (by rw [rsd_len]; exact HZL.out.symm) (infoRs2 _ _ _) (rsd_one _ _ _) ?_; intro w2 hb2 hk2; have B2 := hx hb2; have KN2 := hx (((Kept.refl [] w1).alloc _).trans hk2 (ds := []) (fun _ h => h) (fun x h => by simp at h; subst h; exact .inr (Nat.le_refl _))); clear hb2 hk2))
  have R2 := hx (R1.out.kept KN2.out)
  have D2 := hx (D1.out.kept KN2.out)
  have K2 := hx (K1.out.trans0 KN2.out)
  have X2 := hx (X1.out.kept KN2.out)
  obtain ⟨g13, hg13⟩ : ∃ g, w1.heap.size = g := ⟨_, rfl⟩
  rw [hg13] at B2
  rw [hg13]
  have HG13 := hx (show g13 ≠ wz.heap.size + 2 from by have h := X1.out.r.lt; omega)
  have HSK := hx (fun (W : World) (hb : Blk W g13 (rsd rd.1 a1 c1) 40) => show (fun w3 => w3.rangeAt g13 0 (rsd rd.1 a1 c1)) W from hb.range)
  clear hg13
  refine wp_region_held_drew (S := (fun w3 => w3.rangeAt g13 0 (rsd rd.1 a1 c1))) (by kernel_rfl) (HSK.out _ ((Kept.drew (Kept.refl [] _)).blk B2.out (by simp))) (fun hHeld => ?_)
  refine take_by 0 77 (v := .agg (rsd rd.1 a1 c1).toArray) rfl rfl (by kernel_rfl) (by kernel_rfl) (by kernel_rfl) (fun _ _ _ h => h) (yieldsIf_load_mid (by rfl) 40 (.tmp 13) rfl g13 0 rfl (rsd rd.1 a1 c1) _ (fun _ hS => hS) Tryz.underlying40 rfl (infoRs2 _ _ _)) (by assumption) ?_
  try simp only [List.setIfInBounds_toArray, List.set_cons_zero, List.set_cons_succ]
  refine take_by 1 78 (v := ?_) rfl rfl (by kernel_rfl) (by kernel_rfl) (by kernel_rfl) (fun _ _ _ h => h) (Or.inl ⟨by rfl, ?_⟩) (by assumption) ?_
  rotate_left
  · (intro w hSw; (try dsimp only at hSw); go_simp; try with_reducible rfl)
  try simp only [List.setIfInBounds_toArray, List.set_cons_zero, List.set_cons_succ]
  refine take_by 3 80 (v := ?_) rfl rfl (by kernel_rfl) (by kernel_rfl) (by kernel_rfl) (fun _ _ _ h => h) (Or.inl ⟨by rfl, ?_⟩) (by assumption) ?_
  rotate_left
  · (intro w hSw; (try dsimp only at hSw); go_simp; try with_reducible rfl)
  try simp only [List.setIfInBounds_toArray, List.set_cons_zero, List.set_cons_succ]
  refine wpAnyH_ready (rs := [2]) (by kernel_rfl) (by simp) ?_
  refine AllReadyH.cons rfl (fun K hK => ?_) AllReadyH.nil
  go_simp
  (go_at_call 8; refine (HFL.out _ (K2.out.trans0 (Kept.drew (Kept.refl [] _)))).mono ?_; rintro e w5 ⟨u5, v5, rfl, ho5, hr5, hk5, hv5, hok5⟩; have KO5 := hx hk5; have X5 := hx ((X2.out.kept (Kept.drew (Kept.refl [] _))).but (HI.out.sr.kept (K2.out.trans0 (Kept.drew (Kept.refl [] _)))) hk5); have B5 := hx (hk5.blk ((Kept.drew (Kept.refl [] _)).blk B2.out (by simp)) ((HI.out.sr.kept (K2.out.trans0 (Kept.drew (Kept.refl [] _)))).not_own ((Kept.drew (Kept.refl [] _)).blk B2.out (by simp)) (by decide) (by decide) (by decide) (by decide))); have D5 := hx ((D2.out.kept (Kept.drew (Kept.refl [] _))).but hk5 (fun g xs hb => (HI.out.sr.kept (K2.out.trans0 (Kept.drew (Kept.refl [] _)))).not_own hb (by decide) (by decide) (by decide) (by decide))); have SN5 := hx (snR_own ho5); have HPF := hx (pl_flush HI.out (by have := HN.out; omega) (K2.out.trans0 (Kept.drew (Kept.refl [] _))) (by rw [HRD.out]; exact R2.out.kept (Kept.drew (Kept.refl [] _))) hr5 hk5 hv5 hok5); clear ho5 hr5 hk5 hv5 hok5)
  refine hK.out _ _ (HSK.out _ B5.out) (fun hHeld => ?_)
  clear hK K
  try simp only [Act.put, List.setIfInBounds_toArray, List.set_cons_zero, List.set_cons_succ]
  rw [HRD.out] at HPF
  obtain ⟨sd2, e2, hp5, hl5, hn5⟩ := HPF.out
  have E2 := hx e2
  have P5 := hx hp5
  have HSM := hx (lsame_m u5 u1 (flushM m).2 (rd.2.map Prod.snd) w5 SN5.out D5.out hl5 hn5)
  clear e2 hp5 hl5 hn5 HPF
  refine wpAnyH_ready (rs := [4]) (by kernel_rfl) (by simp) ?_
  refine AllReadyH.cons rfl (fun K hK => ?_) AllReadyH.nil
  go_simp
  (go_at_call 33; refine HSM.out.mono ?_; rintro e w6 ⟨rfl, hk6⟩; have P6 := hx (P5.out.keep hk6); have K6 := hx hk6; have X6 := hx (X5.out.kept hk6); have B6 := hx (hk6.blk B5.out (by simp)); clear hk6)
  refine hK.out _ _ (HSK.out _ B6.out) (fun hHeld => ?_)
  clear hK K
  try simp only [Act.put, List.setIfInBounds_toArray, List.set_cons_zero, List.set_cons_succ]
  refine wpAnyH_ready (rs := [5]) (by kernel_rfl) (by simp) ?_
  refine AllReadyH.cons rfl (fun K hK => ?_) AllReadyH.nil
  refine Qd.step_storeB rfl 40 (.tmp 6) (.tmp 77) rfl (wz.heap.size + 2) rfl 40 (rsd ms00 none 0) (rsd rd.1 a1 c1) rfl X6.out.r (by rw [rsd_len, rsd_len]) (infoRs2 _ _ _) (rsd_one _ _ _) ?_
  intro w8 hb8 hk8
  have B8 := hx hb8
  have K8 := hx hk8
  clear hb8 hk8
  refine hK.out _ _ (HSK.out _ (K8.out.blk B6.out (by have := HG13.out; simp; omega))) (fun _ => ?_)
  clear hK K
  try simp only [Act.put, List.getElem_toArray, List.getElem_cons_succ, List.getElem_cons_zero, List.setIfInBounds_toArray, List.set_cons_zero, List.set_cons_succ]
  refine take_by 6 7 (v := ?_) rfl rfl (by kernel_rfl) (by kernel_rfl) (by kernel_rfl) (fun _ _ _ h => h) (Or.inl ⟨by rfl, ?_⟩) (by assumption) ?_
  rotate_left
  · (intro w hSw; (try dsimp only at hSw); go_simp; try with_reducible rfl)
  try simp only [List.setIfInBounds_toArray, List.set_cons_zero, List.set_cons_succ]
  refine wpAnyH_done (by kernel_rfl) ?_ _
  go_wp2_with fail
  refine bodyPost_ret (Qd.ret_blk2 rfl _ (wz.heap.size + 2) _ _ _ _ rfl rfl B8.out Tryz.underlying40 rfl (infoRs2 _ _ _)) rfl ?_
  exact ⟨v5, _, a1, c1, sd2, by rw [← E2.out]; rfl, (P6.out.box X6.out.r K8.out (by have := HWS.out; omega)).mono (by omega) (by omega) (by omega), kept_fin (K2.out.trans0 (Kept.drew (Kept.refl [] _))) (KO5.out.trans0 K6.out) K8.out (by omega)⟩
set_option linter.unusedSimpArgs false in
set_option maxRecDepth 100000 in
set_option maxHeartbeats 12800000 in
theorem do_trip (w wz : World) (s b q : Nat) (v : Value) (m : Ms) (a : Option Addr) (c : Nat) (sd : List Qd.It) (k t B rk : Int) (d : Dg) (p : Option Addr) (cc : Nat) (nn wy : Int) (th : Nat) (I : PlI w wz s b q v m a c sd k t B) (hk : 0 ≤ k ∧ k < 60) (ht : 0 ≤ t ∧ t ≤ 100000) (hB : B ≤ 1000000000000) (hd : Bts w p d.data.length cc d.data) (hth : th < 4294967296) :
    Calls Tryz.prog 12 #[.pointer (some ⟨s, 0, none⟩), .agg (rsd (m.wS sd) a c).toArray, .agg (oqc ⟨4, rk, d, p, cc, nn, wy, th⟩).toArray] wz (DoP w wz s b q v (k + 1) (t + 301) (B + 157286400)) := by
  obtain ⟨Z, hZ, hz⟩ := zeroRS'
  have HZL := hx (show Z.toList.length = 167 by rw [hZ, rsd_len])
  have HI := hx I
  have HN := hx (And.intro hk (And.intro ht hB))
  have HD := hx hd
  have HTH := hx hth
  clear I hk ht hB hd hth
  go_enter Tryz.func12, Tryz.ntmps12
  go_upto_region 1 with fail
  generalize hw0 : World.alloc (World.alloc (World.alloc wz _) _) _ = W0
  obtain ⟨x0, k0⟩ := do_start (m.wS sd) a c _ wz Z hZ hw0
  have X0 := hx x0
  have K0 := hx k0
  have HWS := hx (show w.heap.size ≤ wz.heap.size from HI.out.kept.size)
  have o0 := x0.d.cell (i := 0) (v := .int .i64 4) rfl
  clear hw0 x0 k0 hZ
  obtain ⟨m2, H1, H2, ho2, hs2, hp2⟩ := trip_both HI.out HTH.out HN.out.1  (wy := wy)
  have HTR := hx H1
  have HRT := hx H2
  have OK2 := hx (And.intro ho2 (And.intro hs2 hp2))
  clear H1 H2 ho2 hs2 hp2
  have o4 := X0.out.d.cell (i := 14) (v := .int .i64 wy) rfl
  have o5 := X0.out.d.cell (i := 15) (v := .int .u32 (th : Int)) rfl
  go_upto_region 27 with (go_at_call 38; refine (HTR.out _ K0.out).mono ?_; rintro e w1 ⟨rfl, hr1, hk1⟩; have R1 := hx hr1; have K1 := hx (hk1.mono (cs := own s b q v) (fun x hx => .inl (by simp at hx; simp [own, hx]))); have X1 := hx (X0.out.but (HI.out.sr.kept K0.out) K1.out); clear hr1 hk1)
  clear o0 o4 o5
  have o4 := X1.out.d.cell (i := 14) (v := .int .i64 wy) rfl
  have o5 := X1.out.d.cell (i := 15) (v := .int .u32 (th : Int)) rfl
  have P1 := hx (HI.out.next K0.out K1.out R1.out (vo_of (.inl rfl)) ((HI.out.rl.kept K0.out).but (HI.out.sr.kept K0.out) K1.out) (by rw [OK2.out.2.1]; exact HI.out.lk) HI.out.dat OK2.out.1 OK2.out.2.2)
  go_wp2_with (first
    | (refine load_blk rfl 40 (.tmp 4) rfl wz.heap.size rfl 40 _ _ X1.out.b Tryz.underlying40 rfl (infoRs2 _ _ _) ?_)
    | (go_at_call 39; refine (HRT.out _).mono ?_; rintro e w2 ⟨rfl, hk2⟩; have P2 := hx (P1.out.keep hk2); have X2 := hx (X1.out.kept hk2); have K2 := hx hk2; clear hk2)
    | (refine store_blk rfl 40 (.tmp 6) (.tmp 134) rfl (wz.heap.size + 2) rfl 40 _ (rsd (m2.wS sd) a c) rfl X2.out.r (by rw [rsd_len, rsd_len]) (infoRs2 _ _ _) (rsd_one _ _ _) ?_; intro w8 hb8 hk8))
  refine bodyPost_ret (Qd.ret_blk2 rfl _ (wz.heap.size + 2) _ _ _ _ rfl rfl hb8 Tryz.underlying40 rfl (infoRs2 _ _ _)) rfl ?_
  exact ⟨v, m2, a, c, sd, rfl, (P2.out.box X2.out.r hk8 (by have := HWS.out; omega)).mono (by omega) (by omega) (by omega), kept_fin K0.out (K1.out.trans0 K2.out) hk8 (by omega)⟩
set_option linter.unusedSimpArgs false in
set_option maxRecDepth 100000 in
set_option maxHeartbeats 12800000 in
theorem do_forget (w wz : World) (s b q : Nat) (v : Value) (m : Ms) (a : Option Addr) (c : Nat) (sd : List Qd.It) (k t B rk : Int) (d : Dg) (p : Option Addr) (cc : Nat) (nn wy : Int) (th : Nat) (I : PlI w wz s b q v m a c sd k t B) (hk : 0 ≤ k ∧ k < 60) (ht : 0 ≤ t ∧ t ≤ 100000) (hB : B ≤ 1000000000000) (hd : Bts w p d.data.length cc d.data) (hth : th < 4294967296) :
    Calls Tryz.prog 12 #[.pointer (some ⟨s, 0, none⟩), .agg (rsd (m.wS sd) a c).toArray, .agg (oqc ⟨5, rk, d, p, cc, nn, wy, th⟩).toArray] wz (DoP w wz s b q v (k + 1) (t + 301) (B + 157286400)) := by
  obtain ⟨Z, hZ, hz⟩ := zeroRS'
  have HZL := hx (show Z.toList.length = 167 by rw [hZ, rsd_len])
  have HI := hx I
  have HN := hx (And.intro hk (And.intro ht hB))
  have HD := hx hd
  have HTH := hx hth
  clear I hk ht hB hd hth
  go_enter Tryz.func12, Tryz.ntmps12
  go_upto_region 1 with fail
  generalize hw0 : World.alloc (World.alloc (World.alloc wz _) _) _ = W0
  obtain ⟨x0, k0⟩ := do_start (m.wS sd) a c _ wz Z hZ hw0
  have X0 := hx x0
  have K0 := hx k0
  have HWS := hx (show w.heap.size ≤ wz.heap.size from HI.out.kept.size)
  have o0 := x0.d.cell (i := 0) (v := .int .i64 5) rfl
  clear hw0 x0 k0 hZ
  have HFO := hx (fun (W : World) (hk : Kept [] wz W) (Bx : Nat) (hB : W.cell? ⟨Bx, 0, none⟩ = some (.int .i64 d.kind)) => forget_m s b q Bx v m d.kind W (HI.out.sr.kept hk) hB (by have h1 := HI.out.ok.len; have h2 := HI.out.ok.room; omega))
  have HRF := hx (fun (W : World) (hl : RL W a c sd) => rforget_m (m.wS sd) a c d.kind W hl (by have h1 := (HI.out.ok.wS HI.out.lk).len; have h2 := HI.out.ok.room; have h3 : (m.wS sd).room = m.room := rfl; omega))
  have o2 := X0.out.d.cell (i := 2) (v := .int .i64 d.kind) rfl
  go_upto_region 30 with fail
  clear o0 o2
  obtain ⟨g18, hg18⟩ : ∃ g, W0.heap.size = g := ⟨_, rfl⟩
  generalize hw1 : World.alloc W0 _ = w1
  have C1 := hx (show w1.cell? ⟨g18, 0, none⟩ = some (.int .i64 d.kind) from by rw [← hw1, ← hg18]; exact (Blk.new W0 [.int .i64 d.kind] 3).cell (i := 0) rfl)
  have KN1 := hx (show Kept [] W0 w1 from by rw [← hw1]; exact (Kept.refl _ _).alloc _)
  have T1 := hx (show Blk w1 g18 [.int .i64 d.kind] 3 from by rw [← hw1, ← hg18]; exact Blk.new W0 [.int .i64 d.kind] 3)
  rw [hg18]
  have K1 := hx (K0.out.trans0 KN1.out)
  have X1 := hx (X0.out.kept KN1.out)
  have HF1 := hx (HFO.out w1 K1.out g18 C1.out)
  clear hw1 hg18
  go_upto_region 31 with (go_at_call 40; refine HF1.out.mono ?_; rintro e w2 ⟨v2, rfl, hr2, hk2, hv2⟩; have R2 := hx hr2; have K2 := hx (hk2.mono (cs := own s b q v) (fun x hx => .inl (by simp at hx; simp [own, hx]))); have X2 := hx (X1.out.but (HI.out.sr.kept K1.out) K2.out); have V2 := hx hv2; have T2 := hx (K2.out.blk T1.out ((HI.out.sr.kept K1.out).not_own T1.out (by decide) (by decide) (by decide) (by decide))); have RL2 := hx ((HI.out.rl.kept K1.out).but (HI.out.sr.kept K1.out) K2.out); clear hr2 hk2 hv2)
  have o18 := T2.out.cell (i := 0) (v := .int .i64 d.kind) rfl
  have HLN := hx (show (m.wS sd).s.length = m.s.length ∧ (forgS d.kind (m.wS sd).s).length = (forgS d.kind m.s).length from ⟨HI.out.lk.len.symm, (forg_like HI.out.lk).len.symm⟩)
  have HR2 := hx (HRF.out w2 RL2.out)
  have KEQ := hx (show { m.wS sd with s := forgS d.kind (m.wS sd).s } = (m.wS (forgS d.kind m.s)).wS (forgS d.kind sd) from rfl)
  clear HRF
  unfold RFoP at HR2
  rw [KEQ.out, HLN.out.1, HLN.out.2] at HR2
  obtain ⟨nf, hnf⟩ : ∃ z : Int, ((m.s.length : Int) - ((forgS d.kind m.s).length : Int)) = z := ⟨_, rfl⟩
  rw [hnf] at HR2
  rw [hnf]
  clear hnf
  go_upto_region 32 with (first
    | (refine load_blk rfl 40 (.tmp 4) rfl wz.heap.size rfl 40 _ _ X2.out.b Tryz.underlying40 rfl (infoRs2 _ _ _) ?_)
    | (go_at_call 42; refine HR2.out.mono ?_; rintro e w3 ⟨a3, c3, rfl, hr3, hk3⟩; have R3 := hx hr3; have K3 := hx hk3; have X3 := hx (X2.out.kept hk3); clear hr3 hk3)
    | (refine store_blk rfl 40 (.tmp 20) (.tmp 147) rfl w3.heap.size rfl 40 _ (rsd ((m.wS (forgS d.kind m.s)).wS (forgS d.kind sd)) a3 c3) rfl (Blk.new' w3 Z 40) (by rw [rsd_len]; exact HZL.out.symm) (infoRs2 _ _ _) (rsd_one _ _ _) ?_; intro w4 hb4 hk4; have B4 := hx hb4; have KN4 := hx (((Kept.refl [] w3).alloc _).trans hk4 (ds := []) (fun _ h => h) (fun x h => by simp at h; subst h; exact .inr (Nat.le_refl _))); clear hb4 hk4))
  clear o18
  have P4 := hx ((HI.out.next K1.out (K2.out.trans0 K3.out) (R2.out.kept K3.out) (fun g hg => .inr (V2.out g hg)) R3.out (forg_like (kind := d.kind) HI.out.lk) (fun y hy => HI.out.dat y (forg_mem hy)) (HI.out.ok.forg d.kind) HI.out.sp).keep KN4.out)
  have X4 := hx (X3.out.kept KN4.out)
  go_wp2_with (first
    | (refine load_blk rfl 40 (.tmp 20) rfl w3.heap.size rfl 40 _ _ B4.out Tryz.underlying40 rfl (infoRs2 _ _ _) ?_)
    | (refine store_blk rfl 40 (.tmp 6) (.tmp 149) rfl (wz.heap.size + 2) rfl 40 _ (rsd ((m.wS (forgS d.kind m.s)).wS (forgS d.kind sd)) a3 c3) rfl X4.out.r (by rw [rsd_len, rsd_len]) (infoRs2 _ _ _) (rsd_one _ _ _) ?_; intro w8 hb8 hk8))
  refine bodyPost_ret (Qd.ret_blk2 rfl _ (wz.heap.size + 2) _ _ _ _ rfl rfl hb8 Tryz.underlying40 rfl (infoRs2 _ _ _)) rfl ?_
  exact ⟨v2, _, a3, c3, _, rfl, (P4.out.box X4.out.r hk8 (by have := HWS.out; omega)).mono (by omega) (by omega) (by omega), kept_fin K1.out ((K2.out.trans0 K3.out).trans0 KN4.out) hk8 (by omega)⟩
set_option linter.unusedSimpArgs false in
set_option maxRecDepth 100000 in
set_option maxHeartbeats 12800000 in
theorem do_ticks (w wz : World) (s b q : Nat) (v : Value) (m : Ms) (a : Option Addr) (c : Nat) (sd : List Qd.It) (k t B rk : Int) (d : Dg) (p : Option Addr) (cc : Nat) (nn wy : Int) (th : Nat) (I : PlI w wz s b q v m a c sd k t B) (hk : 0 ≤ k ∧ k < 60) (ht : 0 ≤ t ∧ t ≤ 100000) (hB : B ≤ 1000000000000) (hd : Bts w p d.data.length cc d.data) (hth : th < 4294967296) :
    Calls Tryz.prog 12 #[.pointer (some ⟨s, 0, none⟩), .agg (rsd (m.wS sd) a c).toArray, .agg (oqc ⟨1, rk, d, p, cc, nn, wy, th⟩).toArray] wz (DoP w wz s b q v (k + 1) (t + 301) (B + 157286400)) := by
  obtain ⟨Z, hZ, hz⟩ := zeroRS'
  have HZL := hx (show Z.toList.length = 167 by rw [hZ, rsd_len])
  have HI := hx I
  have HN := hx (And.intro hk (And.intro ht hB))
  have HD := hx hd
  have HTH := hx hth
  clear I hk ht hB hd hth
  go_enter Tryz.func12, Tryz.ntmps12
  go_upto_region 1 with fail
  generalize hw0 : World.alloc (World.alloc (World.alloc wz _) _) _ = W0
  obtain ⟨x0, k0⟩ := do_start (m.wS sd) a c _ wz Z hZ hw0
  have X0 := hx x0
  have K0 := hx k0
  have HWS := hx (show w.heap.size ≤ wz.heap.size from HI.out.kept.size)
  have o0 := x0.d.cell (i := 0) (v := .int .i64 1) rfl
  clear hw0 x0 k0 hZ
  go_wp2_with fail
  clear o0
  go_loopw [10] (fun s10 wr => ∃ (i : Nat) (m2 : Ms), s10 = .int .i64 (i : Int) ∧ Hx (i ≤ 150) ∧ Hx (PlI w wr s b q v m2 a c sd k (t + 2 * (i : Int)) (B + 1048576 * (i : Int))) ∧ Hx (Bx4 wz wr (m2.wS sd) a c ⟨1, rk, d, p, cc, nn, wy, th⟩) ∧ Hx (Kept (own s b q v) wz wr)) (fun s10 _ => 150 - (intOf s10).toNat)
  case atStart => exact ⟨0, m, rfl, hx (by omega), hx (by have h := HI.out.keep K0.out; simpa using h), X0, hx (K0.out.mono (by simp))⟩
  case round =>
    clear X0 K0
    obtain ⟨i, m2, rfl, HL, HP, HX, HKK⟩ := hrel
    have o13 := HX.out.d.cell (i := 13) (v := .int .i64 nn) rfl
    by_cases h1 : (i : Int) < nn
    · have d1 : decide ((i : Int) < nn) = true := decide_eq_true h1
      by_cases h2 : i < 150
      · have h3 : (i : Int) < 150 := by omega
        have d2 : decide ((i : Int) < 150) = true := decide_eq_true h3
        have HLT := hx h2
        obtain ⟨rd, hrd⟩ : ∃ r, tickM (m2.wS sd) = r := ⟨_, rfl⟩
        have HRD := hx hrd
        have HRT := hx (fun (W : World) => show Calls Tryz.prog 32 #[.agg (rsd (m2.wS sd) a c).toArray] W (RTkP W rd a c) from by
          rw [← hrd]
          exact rtick_m (m2.wS sd) a c k (t + 2 * (i : Int)) W (HP.out.ok.wS HP.out.lk) (by have := HN.out; omega) (by have := HN.out; omega) (by have h5 := HP.out.sp; have h6 := HN.out; have h7 := HP.out.ok.held; have h8 := HP.out.ok.burst; show 0 ≤ m2.spent ∧ m2.spent ≤ 100000000000000; omega))
        have HTK := hx (fun (W : World) (hk : Kept [] wr W) => tick_m s b q v m2 k (t + 2 * (i : Int)) W (HP.out.sr.kept hk) HP.out.ok (by have := HN.out; omega) (by have := HN.out; omega))
        clear h2 hrd
        go_upto_region 10 with fail
        clear o13 d1 d2 h1
        go_upto_region 11 with (first
          | (refine load_blk rfl 40 (.tmp 4) rfl wz.heap.size rfl 40 _ _ HX.out.b Tryz.underlying40 rfl (infoRs2 _ _ _) ?_)
          | (go_at_call 32; refine (HRT.out _).mono ?_; rintro e w1 ⟨u1, rfl, hd1, hk1⟩; have D1 := hx hd1; have K1 := hx hk1; have X1 := hx (HX.out.kept hk1); clear hd1 hk1)
          | (refine store_blk rfl 40 (.tmp 11) (.tmp 60) rfl w1.heap.size rfl 40 _ (rsd rd.1 a c) rfl (Blk.new' w1 Z 40) (by rw [rsd_len]; exact HZL.out.symm) (infoRs2 _ _ _) (rsd_one _ _ _) ?_; intro w2 hb2 hk2; have B2 := hx hb2; have KN2 := hx (((Kept.refl [] w1).alloc _).trans hk2 (ds := []) (fun _ h => h) (fun x h => by simp at h; subst h; exact .inr (Nat.le_refl _))); clear hb2 hk2))
        have D2 := hx (D1.out.kept KN2.out)
        have K2 := hx (K1.out.trans0 KN2.out)
        have X2 := hx (X1.out.kept KN2.out)
        obtain ⟨g11, hg11⟩ : ∃ g, w1.heap.size = g := ⟨_, rfl⟩
        rw [hg11] at B2
        rw [hg11]
        clear hg11
        go_upto_region 13 with (first
          | (go_at_call 34; refine (HTK.out _ K2.out).mono ?_; rintro e w5 ⟨u5, rfl, ho5, hr5, hk5⟩; have hk5' := hk5.mono (cs := own s b q v) (fun x hx => .inl (by simp at hx; rcases hx with rfl | rfl <;> simp [own])); have KO5 := hx hk5'; have X5 := hx (X2.out.but (HP.out.sr.kept K2.out) hk5'); have B5 := hx (hk5'.blk B2.out ((HP.out.sr.kept K2.out).not_own B2.out (by decide) (by decide) (by decide) (by decide))); have D5 := hx (D2.out.but hk5' (fun g xs hb => (HP.out.sr.kept K2.out).not_own hb (by decide) (by decide) (by decide) (by decide))); have SN5 := hx (snR_own ho5); have HPF := hx (pl_tick HP.out (by have := HN.out; omega) (by have := HN.out; have := HLT.out; omega) K2.out hr5 hk5 ((HP.out.rl.kept K2.out).but (HP.out.sr.kept K2.out) hk5')); rw [HRD.out] at HPF; have HSM := hx (lsame_m u5 u1 (tickM m2).2 (rd.2.map Prod.snd) w5 SN5.out D5.out HPF.out.2.1 HPF.out.2.2); clear ho5 hr5 hk5 hk5')
          | (go_at_call 33; refine HSM.out.mono ?_; rintro e w6 ⟨rfl, hk6⟩; have P6 := hx (HPF.out.1.keep hk6); have K6 := hx hk6; have X6 := hx (X5.out.kept hk6); have B6 := hx (hk6.blk B5.out (by simp)); clear hk6))
        have E2 := hx (show rd.1 = (tickM m2).1.wS sd by rw [← HRD.out]; exact (tick_like m2 sd).1)
        clear HTK HRT HSM HPF D1 D2 D5 SN5
        go_wp2_with (first
          | (refine load_blk rfl 40 (.tmp 11) rfl g11 rfl 40 _ _ B6.out Tryz.underlying40 rfl (infoRs2 _ _ _) ?_)
          | (refine store_blk rfl 40 (.tmp 4) (.tmp 68) rfl wz.heap.size rfl 40 _ (rsd rd.1 a c) rfl X6.out.b (by rw [rsd_len, rsd_len]) (infoRs2 _ _ _) (rsd_one _ _ _) ?_; intro w8 hb8 hk8; have B8 := hx hb8; have K8 := hx hk8; clear hb8 hk8))
        go_roundw
        case rel => exact ⟨i + 1, (tickM m2).1, by push_cast; rfl, hx (by have := HLT.out; omega), hx ((P6.out.box X6.out.b K8.out (by have := HWS.out; omega)).mono (Int.le_refl _) (by push_cast; omega) (by push_cast; omega)), hx (by rw [← E2.out]; exact ⟨B8.out, K8.out.blk X6.out.d (by simp), K8.out.blk X6.out.r (by simp)⟩), hx (HKK.out.trans (kept_fin2 K2.out (KO5.out.trans0 K6.out) K8.out) (fun _ h => h) (fun g hg => by rcases List.mem_cons.1 hg with rfl | hg; exact .inr (Nat.le_refl _); exact .inl hg))⟩
        case measure =>
          simp only [intOf]
          have := HLT.out
          omega
      · have h3 : ¬ (i : Int) < 150 := by omega
        have d2 : decide ((i : Int) < 150) = false := decide_eq_false h3
        clear h2
        go_wp2_with (first
          | (refine load_blk rfl 40 (.tmp 4) rfl wz.heap.size rfl 40 _ _ HX.out.b Tryz.underlying40 rfl (infoRs2 _ _ _) ?_)
          | (refine store_blk rfl 40 (.tmp 6) (.tmp 69) rfl (wz.heap.size + 2) rfl 40 _ (rsd (m2.wS sd) a c) rfl HX.out.r (by rw [rsd_len, rsd_len]) (infoRs2 _ _ _) (rsd_one _ _ _) ?_; intro w8 hb8 hk8))
        refine bodyPost_ret (Qd.ret_blk2 rfl _ (wz.heap.size + 2) _ _ _ _ rfl rfl hb8 Tryz.underlying40 rfl (infoRs2 _ _ _)) rfl ?_
        exact ⟨v, m2, a, c, sd, rfl, (HP.out.box HX.out.r hk8 (by have := HWS.out; omega)).mono (by omega) (by have := HL.out; omega) (by have := HL.out; omega), kept_fin (Kept.refl _ _) HKK.out hk8 (by omega)⟩
    · have d1 : decide ((i : Int) < nn) = false := decide_eq_false h1
      go_wp2_with (first
        | (refine load_blk rfl 40 (.tmp 4) rfl wz.heap.size rfl 40 _ _ HX.out.b Tryz.underlying40 rfl (infoRs2 _ _ _) ?_)
        | (refine store_blk rfl 40 (.tmp 6) (.tmp 69) rfl (wz.heap.size + 2) rfl 40 _ (rsd (m2.wS sd) a c) rfl HX.out.r (by rw [rsd_len, rsd_len]) (infoRs2 _ _ _) (rsd_one _ _ _) ?_; intro w8 hb8 hk8))
      refine bodyPost_ret (Qd.ret_blk2 rfl _ (wz.heap.size + 2) _ _ _ _ rfl rfl hb8 Tryz.underlying40 rfl (infoRs2 _ _ _)) rfl ?_
      exact ⟨v, m2, a, c, sd, rfl, (HP.out.box HX.out.r hk8 (by have := HWS.out; omega)).mono (by omega) (by have := HL.out; omega) (by have := HL.out; omega), kept_fin (Kept.refl _ _) HKK.out hk8 (by omega)⟩
set_option linter.unusedSimpArgs false in
set_option maxRecDepth 100000 in
set_option maxHeartbeats 12800000 in
theorem do_heard (w wz : World) (s b q : Nat) (v : Value) (m : Ms) (a : Option Addr) (c : Nat) (sd : List Qd.It) (k t B rk : Int) (d : Dg) (p : Option Addr) (cc : Nat) (nn wy : Int) (th : Nat) (I : PlI w wz s b q v m a c sd k t B) (hk : 0 ≤ k ∧ k < 60) (ht : 0 ≤ t ∧ t ≤ 100000) (hB : B ≤ 1000000000000) (hd : Bts w p d.data.length cc d.data) (hth : th < 4294967296) :
    Calls Tryz.prog 12 #[.pointer (some ⟨s, 0, none⟩), .agg (rsd (m.wS sd) a c).toArray, .agg (oqc ⟨3, rk, d, p, cc, nn, wy, th⟩).toArray] wz (DoP w wz s b q v (k + 1) (t + 301) (B + 157286400)) := by
  obtain ⟨Z, hZ, hz⟩ := zeroRS'
  obtain ⟨Y, hY, hy⟩ := zeroRp'
  have HYL := hx (show Y.toList.length = 78 by rw [hY, rpc_len])
  clear hY
  have HZL := hx (show Z.toList.length = 167 by rw [hZ, rsd_len])
  have HI := hx I
  have HN := hx (And.intro hk (And.intro ht hB))
  have HD := hx hd
  have HTH := hx hth
  clear I hk ht hB hd hth
  go_enter Tryz.func12, Tryz.ntmps12
  go_upto_region 1 with fail
  generalize hw0 : World.alloc (World.alloc (World.alloc wz _) _) _ = W0
  obtain ⟨x0, k0⟩ := do_start (m.wS sd) a c _ wz Z hZ hw0
  have X0 := hx x0
  have K0 := hx k0
  have HWS := hx (show w.heap.size ≤ wz.heap.size from HI.out.kept.size)
  have o0 := x0.d.cell (i := 0) (v := .int .i64 3) rfl
  clear hw0 x0 k0 hZ
  have o4 := X0.out.d.cell (i := 14) (v := .int .i64 wy) rfl
  have o5 := X0.out.d.cell (i := 15) (v := .int .u32 (th : Int)) rfl
  by_cases h0 : wy < 0
  · have d0 : decide (wy < 0) = true := decide_eq_true h0
    have HHO := hx (fun (W : World) => heard_out s wy th W (by omega))
    go_upto_region 21 with (go_at_call 36; refine (HHO.out _).mono ?_; rintro e w1 ⟨rfl, rfl⟩)
    go_wp2_with (first
      | (refine load_blk rfl 40 (.tmp 4) rfl wz.heap.size rfl 40 _ _ X0.out.b Tryz.underlying40 rfl (infoRs2 _ _ _) ?_)
      | (refine store_blk rfl 40 (.tmp 6) (.tmp 98) rfl (wz.heap.size + 2) rfl 40 _ (rsd (m.wS sd) a c) rfl X0.out.r (by rw [rsd_len, rsd_len]) (infoRs2 _ _ _) (rsd_one _ _ _) ?_; intro w8 hb8 hk8))
    refine bodyPost_ret (Qd.ret_blk2 rfl _ (wz.heap.size + 2) _ _ _ _ rfl rfl hb8 Tryz.underlying40 rfl (infoRs2 _ _ _)) rfl ?_
    exact ⟨v, m, a, c, sd, rfl, ((HI.out.keep K0.out).box X0.out.r hk8 (by have := HWS.out; omega)).mono (by omega) (by omega) (by omega), kept_fin K0.out ((Kept.refl [] _).mono (by simp)) hk8 (by omega)⟩
  · have d0 : decide (wy < 0) = false := decide_eq_false h0
    by_cases h1 : 1 < wy
    · have d1 : decide (1 < wy) = true := decide_eq_true h1
      have HHO := hx (fun (W : World) => heard_out s wy th W (by omega))
      go_upto_region 21 with (go_at_call 36; refine (HHO.out _).mono ?_; rintro e w1 ⟨rfl, rfl⟩)
      go_wp2_with (first
        | (refine load_blk rfl 40 (.tmp 4) rfl wz.heap.size rfl 40 _ _ X0.out.b Tryz.underlying40 rfl (infoRs2 _ _ _) ?_)
        | (refine store_blk rfl 40 (.tmp 6) (.tmp 98) rfl (wz.heap.size + 2) rfl 40 _ (rsd (m.wS sd) a c) rfl X0.out.r (by rw [rsd_len, rsd_len]) (infoRs2 _ _ _) (rsd_one _ _ _) ?_; intro w8 hb8 hk8))
      refine bodyPost_ret (Qd.ret_blk2 rfl _ (wz.heap.size + 2) _ _ _ _ rfl rfl hb8 Tryz.underlying40 rfl (infoRs2 _ _ _)) rfl ?_
      exact ⟨v, m, a, c, sd, rfl, ((HI.out.keep K0.out).box X0.out.r hk8 (by have := HWS.out; omega)).mono (by omega) (by omega) (by omega), kept_fin K0.out ((Kept.refl [] _).mono (by simp)) hk8 (by omega)⟩
    · have d1 : decide (1 < wy) = false := decide_eq_false h1
      obtain ⟨j, rfl⟩ : ∃ j : Nat, wy = (j : Int) := ⟨wy.toNat, by omega⟩
      have hj2 : (j : Int) < 2 := by omega
      have HJ := hx (show j < 2 by omega)
      obtain ⟨P, hP⟩ : ∃ P, (heardP (m.way j) th).1 = P := ⟨_, rfl⟩
      obtain ⟨ec, hec⟩ : ∃ z, (heardP (m.way j) th).2 = z := ⟨_, rfl⟩
      have HPE := hx (And.intro hP hec)
      have HHE := hx (heard_m s b q j th v m k t W0 (HI.out.sr.kept K0.out) HI.out.ok (by omega) (by have := HN.out; omega) (by have := HN.out; omega) HTH.out)
      have HRH := hx (fun W => rheard_any th (m.way j) W ((HI.out.ok.way j).s.mono (by have := HN.out; omega)) ((HI.out.ok.way j).seen.mono (by have := HN.out; omega)) HTH.out)
      rw [hP, hec] at HHE HRH
      clear hP hec
      go_upto_region 20 with (go_at_call 36; refine HHE.out.mono ?_; rintro e w1 ⟨rfl, hr1, hk1⟩; have R1 := hx hr1; have K1 := hx (hk1.mono (cs := own s b q v) (fun x hx => .inl (by simp at hx; simp [own, hx]))); have X1 := hx (X0.out.but (HI.out.sr.kept K0.out) K1.out); clear hr1 hk1)
      clear o0 o4 o5
      have o4 := X1.out.d.cell (i := 14) (v := .int .i64 (j : Int)) rfl
      have P1 := hx (HI.out.next K0.out K1.out R1.out (vo_of (.inl rfl)) ((HI.out.rl.kept K0.out).but (HI.out.sr.kept K0.out) K1.out) (lk := by rw [(setW_same m j P).2.2.2.2.2.2.2]; exact HI.out.lk) (sd2 := sd) (a2 := a) (c2 := c) (k2 := k + 1) (t2 := t) (B2 := B) HI.out.dat ((HI.out.ok.mono2 (k2 := k + 1) (by omega) (Int.le_refl _)).setW (Int.le_refl _) j P (by rw [← HPE.out.1]; exact heard_ok _ th k t (HI.out.ok.way j) HTH.out (by have := HN.out; omega) (by have := HN.out; omega))) (by rw [(setW_same m j P).2.2.1, (setW_same m j P).2.2.2.1]; exact HI.out.sp))
      have HSK := hx (fun (W : World) (hd4 : Blk W (wz.heap.size + 1) (oqc ⟨3, rk, d, p, cc, nn, (j : Int), th⟩) 58) (hb : Blk W wz.heap.size (rsd (m.wS sd) a c) 40) => show (fun w3 => w3.cell? ⟨wz.heap.size + 1, 14, none⟩ = some (.int .i64 (j : Int)) ∧ w3.cell? ⟨wz.heap.size + 1, 15, none⟩ = some (.int .u32 (th : Int)) ∧ w3.rangeAt wz.heap.size (j * 78) (rpc (m.way j))) W from ⟨hd4.cell (i := 14) rfl, hd4.cell (i := 15) rfl, (by have h := (rsd_way (m.wS sd) a c HJ.out).range hb; rw [way_wS] at h; exact h)⟩)
      go_upto_region 22 with fail
      clear o4
      refine wp_region_held_drew (S := (fun w3 => w3.cell? ⟨wz.heap.size + 1, 14, none⟩ = some (.int .i64 (j : Int)) ∧ w3.cell? ⟨wz.heap.size + 1, 15, none⟩ = some (.int .u32 (th : Int)) ∧ w3.rangeAt wz.heap.size (j * 78) (rpc (m.way j)))) (by kernel_rfl) (HSK.out _ (X1.out.kept (Kept.drew (Kept.refl [] _))).d (X1.out.kept (Kept.drew (Kept.refl [] _))).b) (fun hHeld => ?_)
      refine take_by 0 102 (v := ?_) rfl rfl (by kernel_rfl) (by kernel_rfl) (by kernel_rfl) (fun _ _ _ h => h) (Or.inl ⟨by rfl, ?_⟩) (by assumption) ?_
      rotate_left
      · (intro w hSw; (try dsimp only at hSw); go_simp; try with_reducible rfl)
      try simp only [List.setIfInBounds_toArray, List.set_cons_zero, List.set_cons_succ]
      refine take_by 1 103 (v := ?_) rfl rfl (by kernel_rfl) (by kernel_rfl) (by kernel_rfl) (fun _ _ _ h => h) (Or.inl ⟨by rfl, ?_⟩) (by assumption) ?_
      rotate_left
      · (intro w hSw; (try dsimp only at hSw); go_simp; try with_reducible rfl)
      try simp only [List.setIfInBounds_toArray, List.set_cons_zero, List.set_cons_succ]
      refine take_by 2 104 (v := ?_) rfl rfl (by kernel_rfl) (by kernel_rfl) (by kernel_rfl) (fun _ _ _ h => h) (Or.inl ⟨by rfl, ?_⟩) (by assumption) ?_
      rotate_left
      · (intro w hSw; (try dsimp only at hSw); go_simp; try with_reducible rfl)
      try simp only [List.setIfInBounds_toArray, List.set_cons_zero, List.set_cons_succ]
      refine take_by 3 105 (v := ?_) rfl rfl (by kernel_rfl) (by kernel_rfl) (by kernel_rfl) (fun _ _ _ h => h) (Or.inl ⟨by rfl, ?_⟩) (by assumption) ?_
      rotate_left
      · (intro w hSw; (try dsimp only at hSw); go_simp; try with_reducible rfl)
      try simp only [List.setIfInBounds_toArray, List.set_cons_zero, List.set_cons_succ]
      refine take_by 4 106 (v := .agg (rpc (m.way j)).toArray) rfl rfl (by kernel_rfl) (by kernel_rfl) (by kernel_rfl) (fun _ _ _ h => h) (yieldsIf_load_mid (by rfl) 34 (.tmp 105) rfl wz.heap.size (j * 78) rfl (rpc (m.way j)) _ (fun _ hS => hS.2.2) Tryz.underlying34 rfl (infoRpn _)) (by assumption) ?_
      try simp only [List.setIfInBounds_toArray, List.set_cons_zero, List.set_cons_succ]
      refine take_by 5 107 (v := ?_) rfl rfl (by kernel_rfl) (by kernel_rfl) (by kernel_rfl) (fun _ _ _ h => h) (Or.inl ⟨by rfl, ?_⟩) (by assumption) ?_
      rotate_left
      · (intro w hSw; (try dsimp only at hSw); go_simp; try with_reducible rfl)
      try simp only [List.setIfInBounds_toArray, List.set_cons_zero, List.set_cons_succ]
      refine take_by 6 108 (v := ?_) rfl rfl (by kernel_rfl) (by kernel_rfl) (by kernel_rfl) (fun _ _ _ h => h) (Or.inl ⟨by rfl, ?_⟩) (by assumption) ?_
      rotate_left
      · (intro w hSw; (try dsimp only at hSw); go_simp; try with_reducible rfl)
      try simp only [List.setIfInBounds_toArray, List.set_cons_zero, List.set_cons_succ]
      refine wpAnyH_ready (rs := [7, 11]) (by kernel_rfl) (by simp) ?_
      refine AllReadyH.cons rfl (fun K hK => ?_) (AllReadyH.cons rfl (fun K hK => ?_) AllReadyH.nil)
      · go_simp
        (go_at_call 37; refine (HRH.out _).mono ?_; rintro e w2 ⟨rfl, hk2⟩; have K2 := hx (show Kept [] w1 w2 from (Kept.drew (Kept.refl [] _)).trans0 hk2); clear hk2)
        refine hK.out _ _ (HSK.out _ (X1.out.kept K2.out).d (X1.out.kept K2.out).b) (fun hHeld => ?_)
        clear hK K
        try simp only [Act.put, List.setIfInBounds_toArray, List.set_cons_zero, List.set_cons_succ]
        refine take_by 8 101 (v := ?_) rfl rfl (by kernel_rfl) (by kernel_rfl) (by kernel_rfl) (fun _ _ _ h => h) (Or.inl ⟨by rfl, ?_⟩) (by assumption) ?_
        rotate_left
        · (intro w hSw; (try dsimp only at hSw); go_simp; try with_reducible rfl)
        try simp only [List.setIfInBounds_toArray, List.set_cons_zero, List.set_cons_succ]
        refine take_by 9 110 (v := ?_) rfl rfl (by kernel_rfl) (by kernel_rfl) (by kernel_rfl) (fun _ _ _ h => h) (Or.inl ⟨by rfl, ?_⟩) (by assumption) ?_
        rotate_left
        · (intro w hSw; (try dsimp only at hSw); go_simp; try with_reducible rfl)
        try simp only [List.setIfInBounds_toArray, List.set_cons_zero, List.set_cons_succ]
        refine take_by 10 111 (v := ?_) rfl rfl (by kernel_rfl) (by kernel_rfl) (by kernel_rfl) (fun _ _ _ h => h) (Or.inl ⟨by rfl, ?_⟩) (by assumption) ?_
        rotate_left
        · (intro w hSw; (try dsimp only at hSw); go_simp; try with_reducible rfl)
        try simp only [List.setIfInBounds_toArray, List.set_cons_zero, List.set_cons_succ]
        refine wpAnyH_ready (rs := [11]) (by kernel_rfl) (by simp) ?_
        refine AllReadyH.cons rfl (fun K hK => ?_) AllReadyH.nil
        go_simp
        obtain ⟨g16, hg16⟩ : ∃ g, w2.heap.size = g := ⟨_, rfl⟩
        rw [hg16]
        generalize hwA : World.alloc w2 _ = wA
        have KA := hx (show Kept [] w2 wA from by rw [← hwA]; exact ((Kept.refl [] w2).alloc _))
        have BA := hx (show Blk wA g16 Y.toList 34 from by rw [← hwA, ← hg16]; exact Blk.new' w2 Y 34)
        have HGA := hx (show w2.heap.size ≤ g16 from by omega)
        clear hwA hg16
        refine hK.out _ _ (HSK.out _ (X1.out.kept (K2.out.trans0 KA.out)).d (X1.out.kept (K2.out.trans0 KA.out)).b) (fun hHeld => ?_)
        clear hK K
        try simp only [Act.put, List.setIfInBounds_toArray, List.set_cons_zero, List.set_cons_succ]
        have KB := hx (K2.out.trans0 KA.out)
        have BB := BA
        have HGB := hx (show w1.heap.size ≤ g16 from Nat.le_trans K2.out.size HGA.out)
        have XB := hx (X1.out.kept KB.out)
        have PB := hx (P1.out.keep KB.out)
        refine wpAnyH_ready (rs := [12]) (by kernel_rfl) (by simp) ?_
        refine AllReadyH.cons rfl (fun K hK => ?_) AllReadyH.nil
        refine Qd.step_storeB rfl 34 (.tmp 16) (.tmp 110) rfl g16 rfl 34 Y.toList (rpc P) rfl BB.out (by rw [rpc_len]; exact HYL.out.symm) (infoRpn _) (rpc_one _) ?_
        intro w4 hb4 hk4
        have B4 := hx hb4
        have K4 := hx (show Kept [] w1 w4 from KB.out.trans hk4 (fun _ h => h) (fun g hg => by simp only [List.mem_cons, List.not_mem_nil, or_false] at hg; subst hg; exact .inr (by have := HGB.out; omega)))
        have X4 := hx (X1.out.kept K4.out)
        have P4 := hx (P1.out.keep K4.out)
        clear hb4 hk4
        refine hK.out _ _ (HSK.out _ X4.out.d X4.out.b) (fun hHeld => ?_)
        clear hK K
        try simp only [Act.put, List.setIfInBounds_toArray, List.set_cons_zero, List.set_cons_succ]
        refine take_by 13 17 (v := ?_) rfl rfl (by kernel_rfl) (by kernel_rfl) (by kernel_rfl) (fun _ _ _ h => h) (Or.inl ⟨by rfl, ?_⟩) (by assumption) ?_
        rotate_left
        · (intro w hSw; (try dsimp only at hSw); go_simp; try with_reducible rfl)
        try simp only [List.setIfInBounds_toArray, List.set_cons_zero, List.set_cons_succ]
        refine wpAnyH_done (by kernel_rfl) ?_ _
        have o4 := X4.out.d.cell (i := 14) (v := .int .i64 (j : Int)) rfl
        have HG4 := hx (show g16 ≠ wz.heap.size from by have h1 := X1.out.b.lt; have h2 := HGB.out; omega)
        go_wp2_with (first
          | (refine load_blk rfl 34 (.tmp 16) rfl g16 rfl 34 _ _ B4.out Tryz.underlying34 rfl (infoRpn _) ?_)
          | (refine store_part rfl 34 (.tmp 116) (.tmp 114) rfl wz.heap.size (j * 78) rfl 40 _ (rpc P) rfl X4.out.b (by rw [rsd_len, rpc_len]; have := HJ.out; omega) (infoRpn _) (rpc_one _) ?_; intro w6 hb6 hk6; rw [rsd_setW _ _ _ HJ.out, setW_wS] at hb6; have P6 := hx (P4.out.box X4.out.b hk6 (by have := HWS.out; omega)); have K6 := hx hk6; have B6 := hx hb6; have R6 := hx (hk6.blk X4.out.r (by simp)); clear hb6 hk6)
          | (refine load_blk rfl 40 (.tmp 4) rfl wz.heap.size rfl 40 _ _ B6.out Tryz.underlying40 rfl (infoRs2 _ _ _) ?_)
          | (refine store_blk rfl 40 (.tmp 6) (.tmp 117) rfl (wz.heap.size + 2) rfl 40 _ (rsd ((m.setW j P).wS sd) a c) rfl R6.out (by rw [rsd_len, rsd_len]) (infoRs2 _ _ _) (rsd_one _ _ _) ?_; intro w8 hb8 hk8))
        refine bodyPost_ret (Qd.ret_blk2 rfl _ (wz.heap.size + 2) _ _ _ _ rfl rfl hb8 Tryz.underlying40 rfl (infoRs2 _ _ _)) rfl ?_
        exact ⟨v, m.setW j P, a, c, sd, rfl, (P6.out.box R6.out hk8 (by have := HWS.out; omega)).mono (by omega) (by omega) (by omega), kept_fin (Kept.refl _ _) (kept_fin K0.out (K1.out.trans0 K4.out) K6.out (by omega)) hk8 (by omega)⟩
      · go_simp
        obtain ⟨g16, hg16⟩ : ∃ g, w1.heap.size = g := ⟨_, rfl⟩
        rw [hg16]
        generalize hwA : World.drew (World.alloc w1 _) = wA
        have KA := hx (show Kept [] w1 wA from by rw [← hwA]; exact ((Kept.refl [] w1).alloc _).drew)
        have BA := hx (show Blk wA g16 Y.toList 34 from by rw [← hwA, ← hg16]; exact (Kept.drew (Kept.refl [] _)).blk (Blk.new' w1 Y 34) (by simp))
        have HGA := hx (show w1.heap.size ≤ g16 from by omega)
        clear hwA hg16
        refine hK.out _ _ (HSK.out _ (X1.out.kept KA.out).d (X1.out.kept KA.out).b) (fun hHeld => ?_)
        clear hK K
        try simp only [Act.put, List.setIfInBounds_toArray, List.set_cons_zero, List.set_cons_succ]
        refine wpAnyH_ready (rs := [7]) (by kernel_rfl) (by simp) ?_
        refine AllReadyH.cons rfl (fun K hK => ?_) AllReadyH.nil
        go_simp
        (go_at_call 37; refine (HRH.out _).mono ?_; rintro e w2 ⟨rfl, hk2⟩; have K2 := hx (show Kept [] w1 w2 from KA.out.trans0 hk2); have BB := hx (hk2.blk BA.out (by simp)); clear hk2)
        have KB := K2
        refine hK.out _ _ (HSK.out _ (X1.out.kept K2.out).d (X1.out.kept K2.out).b) (fun hHeld => ?_)
        clear hK K
        try simp only [Act.put, List.setIfInBounds_toArray, List.set_cons_zero, List.set_cons_succ]
        refine take_by 8 101 (v := ?_) rfl rfl (by kernel_rfl) (by kernel_rfl) (by kernel_rfl) (fun _ _ _ h => h) (Or.inl ⟨by rfl, ?_⟩) (by assumption) ?_
        rotate_left
        · (intro w hSw; (try dsimp only at hSw); go_simp; try with_reducible rfl)
        try simp only [List.setIfInBounds_toArray, List.set_cons_zero, List.set_cons_succ]
        refine take_by 9 110 (v := ?_) rfl rfl (by kernel_rfl) (by kernel_rfl) (by kernel_rfl) (fun _ _ _ h => h) (Or.inl ⟨by rfl, ?_⟩) (by assumption) ?_
        rotate_left
        · (intro w hSw; (try dsimp only at hSw); go_simp; try with_reducible rfl)
        try simp only [List.setIfInBounds_toArray, List.set_cons_zero, List.set_cons_succ]
        refine take_by 10 111 (v := ?_) rfl rfl (by kernel_rfl) (by kernel_rfl) (by kernel_rfl) (fun _ _ _ h => h) (Or.inl ⟨by rfl, ?_⟩) (by assumption) ?_
        rotate_left
        · (intro w hSw; (try dsimp only at hSw); go_simp; try with_reducible rfl)
        try simp only [List.setIfInBounds_toArray, List.set_cons_zero, List.set_cons_succ]
        have HGB := HGA
        have XB := hx (X1.out.kept KB.out)
        have PB := hx (P1.out.keep KB.out)
        refine wpAnyH_ready (rs := [12]) (by kernel_rfl) (by simp) ?_
        refine AllReadyH.cons rfl (fun K hK => ?_) AllReadyH.nil
        refine Qd.step_storeB rfl 34 (.tmp 16) (.tmp 110) rfl g16 rfl 34 Y.toList (rpc P) rfl BB.out (by rw [rpc_len]; exact HYL.out.symm) (infoRpn _) (rpc_one _) ?_
        intro w4 hb4 hk4
        have B4 := hx hb4
        have K4 := hx (show Kept [] w1 w4 from KB.out.trans hk4 (fun _ h => h) (fun g hg => by simp only [List.mem_cons, List.not_mem_nil, or_false] at hg; subst hg; exact .inr (by have := HGB.out; omega)))
        have X4 := hx (X1.out.kept K4.out)
        have P4 := hx (P1.out.keep K4.out)
        clear hb4 hk4
        refine hK.out _ _ (HSK.out _ X4.out.d X4.out.b) (fun hHeld => ?_)
        clear hK K
        try simp only [Act.put, List.setIfInBounds_toArray, List.set_cons_zero, List.set_cons_succ]
        refine take_by 13 17 (v := ?_) rfl rfl (by kernel_rfl) (by kernel_rfl) (by kernel_rfl) (fun _ _ _ h => h) (Or.inl ⟨by rfl, ?_⟩) (by assumption) ?_
        rotate_left
        · (intro w hSw; (try dsimp only at hSw); go_simp; try with_reducible rfl)
        try simp only [List.setIfInBounds_toArray, List.set_cons_zero, List.set_cons_succ]
        refine wpAnyH_done (by kernel_rfl) ?_ _
        have o4 := X4.out.d.cell (i := 14) (v := .int .i64 (j : Int)) rfl
        have HG4 := hx (show g16 ≠ wz.heap.size from by have h1 := X1.out.b.lt; have h2 := HGB.out; omega)
        go_wp2_with (first
          | (refine load_blk rfl 34 (.tmp 16) rfl g16 rfl 34 _ _ B4.out Tryz.underlying34 rfl (infoRpn _) ?_)
          | (refine store_part rfl 34 (.tmp 116) (.tmp 114) rfl wz.heap.size (j * 78) rfl 40 _ (rpc P) rfl X4.out.b (by rw [rsd_len, rpc_len]; have := HJ.out; omega) (infoRpn _) (rpc_one _) ?_; intro w6 hb6 hk6; rw [rsd_setW _ _ _ HJ.out, setW_wS] at hb6; have P6 := hx (P4.out.box X4.out.b hk6 (by have := HWS.out; omega)); have K6 := hx hk6; have B6 := hx hb6; have R6 := hx (hk6.blk X4.out.r (by simp)); clear hb6 hk6)
          | (refine load_blk rfl 40 (.tmp 4) rfl wz.heap.size rfl 40 _ _ B6.out Tryz.underlying40 rfl (infoRs2 _ _ _) ?_)
          | (refine store_blk rfl 40 (.tmp 6) (.tmp 117) rfl (wz.heap.size + 2) rfl 40 _ (rsd ((m.setW j P).wS sd) a c) rfl R6.out (by rw [rsd_len, rsd_len]) (infoRs2 _ _ _) (rsd_one _ _ _) ?_; intro w8 hb8 hk8))
        refine bodyPost_ret (Qd.ret_blk2 rfl _ (wz.heap.size + 2) _ _ _ _ rfl rfl hb8 Tryz.underlying40 rfl (infoRs2 _ _ _)) rfl ?_
        exact ⟨v, m.setW j P, a, c, sd, rfl, (P6.out.box R6.out hk8 (by have := HWS.out; omega)).mono (by omega) (by omega) (by omega), kept_fin (Kept.refl _ _) (kept_fin K0.out (K1.out.trans0 K4.out) K6.out (by omega)) hk8 (by omega)⟩
end Go.Proofs.YtgdofgckjkmhjaaGreat.Mp
