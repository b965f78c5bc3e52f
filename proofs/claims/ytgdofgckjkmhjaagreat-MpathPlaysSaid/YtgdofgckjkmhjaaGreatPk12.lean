/- The document's sender: a datagram goes by a way. Printed by k/gen_rfu.py. The references' numbers of 128 bits with a sign: what each function makes of them. The references' product of wide numbers (WideT and WideU, beside PathW). -/
import Derived.Test.YtgdofgckjkmhjaaGreatPk11
import Derived.Test.YtgdofgckjkmhjaaGreatProg
import Derived.Test.YtgdofgckjkmhjaaGreatPk01
import Derived.Handy
import Derived.LoopTactic
import Derived.Outline
import Derived.Lib.Hide
import Derived.BigQuiet
import Derived.Laws.BitsAllLaws
import Derived.Test.YtgdofgckjkmhjaaGreatPk04
import Derived.Deep.DeepCutAuto
set_option linter.unusedSimpArgs false
set_option linter.unusedVariables false
namespace Go.Proofs.YtgdofgckjkmhjaaGreat.Mp
open Go Go.RowKit
open Qd (dvl dv0 dvl_one infoDg step_of take_by)
theorem ret_two {P : Program} {w : World} {fn : Func} {p q : Tmp} {t1 t2 : TypeId} (h : fn.results = #[.cell p t1, .cell q t2]) (tmps : Array Value) (g1 g2 : Nat) (T1 T2 : TypeId) (xs ys : List Value) (d1 d2 : TypeDesc)
    (hp : tmps.getD p undef = .pointer (some ⟨g1, 0, none⟩)) (hq : tmps.getD q undef = .pointer (some ⟨g2, 0, none⟩)) (hb1 : Blk w g1 xs T1) (hb2 : Blk w g2 ys T2)
    (hu1 : P.underlying t1 = some d1) (hd1 : (match d1 with | .struct _ | .array _ _ => true | _ => false) = true) (hi1 : (P.info? t1).map (·.size) = some xs.length)
    (hu2 : P.underlying t2 = some d2) (hd2 : (match d2 with | .struct _ | .array _ _ => true | _ => false) = true) (hi2 : (P.info? t2).map (·.size) = some ys.length) :
    (results fn tmps).run P w = .ok (.tuple #[.agg xs.toArray, .agg ys.toArray]) w := by
  have hp' : tmps[p]?.getD undef = .pointer (some ⟨g1, 0, none⟩) := by simpa using hp
  have hq' : tmps[q]?.getD undef = .pointer (some ⟨g2, 0, none⟩) := by simpa using hq
  simp [results, h, hp', hq', asAddr, run_loadVar_row w g1 T1 t1 xs.toArray (0, 0) d1 hb1 hu1 hd1 (by simpa using hi1), run_loadVar_row w g2 T2 t2 ys.toArray (0, 0) d2 hb2 hu2 hd2 (by simpa using hi2)]
theorem drewB {w : World} {b : Nat} {xs : List Value} {T : TypeId} (h : Blk w b xs T) : Blk w.drew b xs T := h
theorem rsd_next (m : Ms) (a : Option Addr) (c : Nat) {i : Nat} (hi : i < 2) : (rsd m a c)[i * 78 + 77]? = some (.int .u32 (m.way i).next) := by
  have h := (rsd_way m a c hi).2 77 (by rw [rpc_len]; omega)
  rw [h]
  exact rpc_tail (m.way i) 3 (by omega)
theorem rpc_front (p q : Pa) (hs : p.s = q.s) (hn : p.seen = q.seen) {k : Nat} (hk : k < 74) : (rpc p)[k]? = (rpc q)[k]? := by
  have e : ∀ r : Pa, (stc r.s ++ rsc r.seen).length = 74 := fun r => by simp [stc, rsc_len]
  unfold rpc
  rw [hs, hn, List.getElem?_append_left (l₁ := stc q.s ++ rsc q.seen) (by rw [e q]; exact hk), List.getElem?_append_left (l₁ := stc q.s ++ rsc q.seen) (by rw [e q]; exact hk)]
theorem rsd_setN (m : Ms) (a : Option Addr) (c : Nat) {i : Nat} (hi : i < 2) : (rsd m a c).set (i * 78 + 77) (.int .u32 (nextU (m.way i).next : Nat)) = rsd (stM m i) a c := by
  have e : setAll (rsd m a c) (i * 78) (rpc { m.way i with next := nextU (m.way i).next }) = rsd (stM m i) a c := rsd_setW m a c hi _
  rw [← e]
  have hp := rsd_way m a c hi
  apply List.ext_getElem?
  intro j
  rw [setAll_get _ _ _ (by rw [rsd_len, rpc_len]; have := two hi; omega), rpc_len]
  by_cases hj : j = i * 78 + 77
  · subst hj
    rw [List.getElem?_set_self (by rw [rsd_len]; have := two hi; omega), if_pos (by omega), show i * 78 + 77 - i * 78 = 77 by omega]
    exact (rpc_tail { m.way i with next := nextU (m.way i).next } 3 (by omega)).symm
  · rw [List.getElem?_set_ne (by omega)]
    split
    · rename_i h2
      obtain ⟨k, rfl⟩ : ∃ k, j = i * 78 + k := ⟨j - i * 78, by omega⟩
      rw [hp.2 k (by rw [rpc_len]; omega), show i * 78 + k - i * 78 = k by omega]
      have hk : k < 77 := by omega
      by_cases h74 : k < 74
      · exact rpc_front (m.way i) { m.way i with next := nextU (m.way i).next } rfl rfl h74
      · rcases (show k = 74 + 0 ∨ k = 74 + 1 ∨ k = 74 + 2 by omega) with rfl | rfl | rfl
        · rw [rpc_tail _ 0 (by omega), rpc_tail _ 0 (by omega)]; rfl
        · rw [rpc_tail _ 1 (by omega), rpc_tail _ 1 (by omega)]; rfl
        · rw [rpc_tail _ 2 (by omega), rpc_tail _ 2 (by omega)]; rfl
    · rfl
theorem rstamp_start (m : Ms) (a : Option Addr) (c : Nat) (d : Qd.Dv) (w : World) (Z : Array Value) (hZ : Z.toList = rsd ms00 none 0) {W0 : World}
    (h : (((w.alloc (.cells (rsd m a c).toArray 40)).alloc (.cells (dvl d).toArray 50)).alloc (.cells Z 40)).alloc (.cells (dvl dv0).toArray 50) = W0) :
    (Blk W0 w.heap.size (rsd m a c) 40 ∧ Blk W0 (w.heap.size + 1) (dgl d.d d.p d.c) 50) ∧ (Blk W0 (w.heap.size + 2) (rsd ms00 none 0) 40 ∧ Blk W0 (w.heap.size + 3) (dvl dv0) 50) ∧ Kept [] w W0 := by
  subst h
  refine ⟨⟨(((Blk.new w (rsd m a c) 40).alloc _).alloc _).alloc _, ?_⟩, ⟨?_, ?_⟩, ((((Kept.refl _ _).alloc _).alloc _).alloc _).alloc _⟩
  · have h := ((Blk.new (w.alloc (.cells (rsd m a c).toArray 40)) (dvl d) 50).alloc (.cells Z 40)).alloc (.cells (dvl dv0).toArray 50)
    rw [show (w.alloc (.cells (rsd m a c).toArray 40)).heap.size = w.heap.size + 1 by simp] at h
    exact h
  · have h := (Blk.new' ((w.alloc (.cells (rsd m a c).toArray 40)).alloc (.cells (dvl d).toArray 50)) Z 40).alloc (.cells (dvl dv0).toArray 50)
    rw [hZ, show ((w.alloc (.cells (rsd m a c).toArray 40)).alloc (.cells (dvl d).toArray 50)).heap.size = w.heap.size + 2 by simp] at h
    exact h
  · have h := Blk.new (((w.alloc (.cells (rsd m a c).toArray 40)).alloc (.cells (dvl d).toArray 50)).alloc (.cells Z 40)) (dvl dv0) 50
    rw [show (((w.alloc (.cells (rsd m a c).toArray 40)).alloc (.cells (dvl d).toArray 50)).alloc (.cells Z 40)).heap.size = w.heap.size + 3 by simp] at h
    exact h
set_option linter.unusedSimpArgs false in
set_option maxRecDepth 100000 in
set_option maxHeartbeats 6400000 in
theorem rstamp_m (m : Ms) (a : Option Addr) (c i : Nat) (d : Qd.Dv) (w : World) (hi : i < 2) (hn : (m.way i).next < 4294967296) :
    Calls Tryz.prog 59 #[.agg (rsd m a c).toArray, .int .i64 (i : Int), .agg (dvl d).toArray] w fun e w' => e = .returned (.tuple #[.agg (rsd (stM m i) a c).toArray, .agg (dvl (stD m i d)).toArray]) ∧ Kept [] w w' := by
  obtain ⟨Z, hZ, hz⟩ := zeroRS'
  have HI := hx hi
  have hii : (i : Int) < 2 := by omega
  have HNX := hx hn
  go_enter Tryz.func59, Tryz.ntmps59
  go_upto_region 1 with fail
  generalize hw0 : World.alloc (World.alloc (World.alloc (World.alloc w _) _) _) _ = W0
  obtain ⟨⟨b0, d0⟩, ⟨r0, z0⟩, k0⟩ := rstamp_start m a c d w Z hZ hw0
  have B0 := hx b0
  have D0 := hx d0
  have R0 := hx r0
  have Z0 := hx z0
  have K0 := hx k0
  have HSK := hx (fun (W : World) (hk : Kept [w.heap.size + 1] W0 W) => show (fun w3 => w3.cell? ⟨w.heap.size, 164, none⟩ = some (.int .u32 m.now) ∧ w3.cell? ⟨w.heap.size, i * 78 + 77, none⟩ = some (.int .u32 (m.way i).next)) W from ⟨(hk.blk B0.out (by simp)).cell (rsd_at m a c 8), (hk.blk B0.out (by simp)).cell (rsd_next m a c HI.out)⟩)
  clear hz hZ hw0 b0 d0 r0 z0 k0 hi hn
  refine wp_region_held_drew (S := (fun w3 => w3.cell? ⟨w.heap.size, 164, none⟩ = some (.int .u32 m.now) ∧ w3.cell? ⟨w.heap.size, i * 78 + 77, none⟩ = some (.int .u32 (m.way i).next))) (by kernel_rfl) (HSK.out _ (Kept.drew (Kept.refl [w.heap.size + 1] W0))) (fun hHeld => ?_)
  refine take_by 0 8 (v := ?_) rfl rfl (by kernel_rfl) (by kernel_rfl) (by kernel_rfl) (fun _ _ _ h => h) (Or.inl ⟨by rfl, ?_⟩) (by assumption) ?_
  rotate_left
  · (intro w hSw; (try dsimp only at hSw); go_simp; try with_reducible rfl)
  try simp only [List.setIfInBounds_toArray, List.set_cons_zero, List.set_cons_succ]
  refine take_by 1 9 (v := ?_) rfl rfl (by kernel_rfl) (by kernel_rfl) (by kernel_rfl) (fun _ _ _ h => h) (Or.inl ⟨by rfl, ?_⟩) (by assumption) ?_
  rotate_left
  · (intro w hSw; (try dsimp only at hSw); go_simp; try with_reducible rfl)
  try simp only [List.setIfInBounds_toArray, List.set_cons_zero, List.set_cons_succ]
  refine take_by 2 10 (v := ?_) rfl rfl (by kernel_rfl) (by kernel_rfl) (by kernel_rfl) (fun _ _ _ h => h) (Or.inl ⟨by rfl, ?_⟩) (by assumption) ?_
  rotate_left
  · (intro w hSw; (try dsimp only at hSw); go_simp; try with_reducible rfl)
  try simp only [List.setIfInBounds_toArray, List.set_cons_zero, List.set_cons_succ]
  refine take_by 3 11 (v := ?_) rfl rfl (by kernel_rfl) (by kernel_rfl) (by kernel_rfl) (fun _ _ _ h => h) (Or.inl ⟨by rfl, ?_⟩) (by assumption) ?_
  rotate_left
  · (intro w hSw; (try dsimp only at hSw); go_simp; try with_reducible rfl)
  try simp only [List.setIfInBounds_toArray, List.set_cons_zero, List.set_cons_succ]
  refine take_by 4 12 (v := ?_) rfl rfl (by kernel_rfl) (by kernel_rfl) (by kernel_rfl) (fun _ _ _ h => h) (Or.inl ⟨by rfl, ?_⟩) (by assumption) ?_
  rotate_left
  · (intro w hSw; (try dsimp only at hSw); go_simp; try with_reducible rfl)
  try simp only [List.setIfInBounds_toArray, List.set_cons_zero, List.set_cons_succ]
  refine take_by 5 13 (v := ?_) rfl rfl (by kernel_rfl) (by kernel_rfl) (by kernel_rfl) (fun _ _ _ h => h) (Or.inl ⟨by rfl, ?_⟩) (by assumption) ?_
  rotate_left
  · (intro w hSw; (try dsimp only at hSw); go_simp; try with_reducible rfl)
  try simp only [List.setIfInBounds_toArray, List.set_cons_zero, List.set_cons_succ]
  refine take_by 6 14 (v := ?_) rfl rfl (by kernel_rfl) (by kernel_rfl) (by kernel_rfl) (fun _ _ _ h => h) (Or.inl ⟨by rfl, ?_⟩) (by assumption) ?_
  rotate_left
  · (intro w hSw; (try dsimp only at hSw); go_simp; try with_reducible rfl)
  try simp only [List.setIfInBounds_toArray, List.set_cons_zero, List.set_cons_succ]
  refine take_by 7 15 (v := ?_) rfl rfl (by kernel_rfl) (by kernel_rfl) (by kernel_rfl) (fun _ _ _ h => h) (Or.inl ⟨by rfl, ?_⟩) (by assumption) ?_
  rotate_left
  · (intro w hSw; (try dsimp only at hSw); go_simp; try with_reducible rfl)
  try simp only [List.setIfInBounds_toArray, List.set_cons_zero, List.set_cons_succ]
  refine take_by 8 16 (v := ?_) rfl rfl (by kernel_rfl) (by kernel_rfl) (by kernel_rfl) (fun _ _ _ h => h) (Or.inl ⟨by rfl, ?_⟩) (by assumption) ?_
  rotate_left
  · (intro w hSw; (try dsimp only at hSw); go_simp; try with_reducible rfl)
  try simp only [List.setIfInBounds_toArray, List.set_cons_zero, List.set_cons_succ]
  have cc := (D0.out).cell (i := 3) rfl
  have ff := (D0.out).free
  refine wpAnyH_ready (rs := [9]) (by kernel_rfl) (by simp) ?_
  refine AllReadyH.cons rfl (fun K hK => ?_) AllReadyH.nil
  go_simp
  generalize hwa : World.drew (World.setCell W0 _ _) = wa at *
  have Ba := hx (show Blk wa (w.heap.size + 1) (dgl { d.d with path := (i : Int) } d.p d.c) 50 by rw [← hwa]; exact drewB ((D0.out).set 3 _))
  have Ka := hx (show Kept [w.heap.size + 1] W0 wa by rw [← hwa]; exact ((Kept.refl [w.heap.size + 1] W0).setCell (.inl (by simp)) _).drew)
  clear hwa cc ff
  refine hK.out _ _ (HSK.out _ Ka.out) (fun _ => ?_)
  clear hK K
  try simp only [Act.put, List.getElem_toArray, List.getElem_cons_succ, List.getElem_cons_zero, List.setIfInBounds_toArray, List.set_cons_zero, List.set_cons_succ]
  refine take_by 10 17 (v := ?_) rfl rfl (by kernel_rfl) (by kernel_rfl) (by kernel_rfl) (fun _ _ _ h => h) (Or.inl ⟨by rfl, ?_⟩) (by assumption) ?_
  rotate_left
  · (intro w hSw; (try dsimp only at hSw); go_simp; try with_reducible rfl)
  try simp only [List.setIfInBounds_toArray, List.set_cons_zero, List.set_cons_succ]
  have cc := (Ba.out).cell (i := 4) rfl
  have ff := (Ba.out).free
  refine wpAnyH_ready (rs := [11]) (by kernel_rfl) (by simp) ?_
  refine AllReadyH.cons rfl (fun K hK => ?_) AllReadyH.nil
  go_simp
  generalize hwb : World.setCell _ _ _ = wb at *
  have Bb := hx (show Blk wb (w.heap.size + 1) (dgl { d.d with path := (i : Int), tick := m.now } d.p d.c) 50 by rw [← hwb]; exact ((Ba.out).set 4 _))
  have Kb := hx (show Kept [w.heap.size + 1] W0 wb by rw [← hwb]; exact (Ka.out.setCell (.inl (by simp)) _))
  clear hwb cc ff
  refine hK.out _ _ (HSK.out _ Kb.out) (fun _ => ?_)
  clear hK K
  try simp only [Act.put, List.getElem_toArray, List.getElem_cons_succ, List.getElem_cons_zero, List.setIfInBounds_toArray, List.set_cons_zero, List.set_cons_succ]
  refine take_by 12 18 (v := ?_) rfl rfl (by kernel_rfl) (by kernel_rfl) (by kernel_rfl) (fun _ _ _ h => h) (Or.inl ⟨by rfl, ?_⟩) (by assumption) ?_
  rotate_left
  · (intro w hSw; (try dsimp only at hSw); go_simp; try with_reducible rfl)
  try simp only [List.setIfInBounds_toArray, List.set_cons_zero, List.set_cons_succ]
  have cc := (Bb.out).cell (i := 2) rfl
  have ff := (Bb.out).free
  refine wpAnyH_ready (rs := [13]) (by kernel_rfl) (by simp) ?_
  refine AllReadyH.cons rfl (fun K hK => ?_) AllReadyH.nil
  go_simp
  generalize hwc : World.setCell _ _ _ = wc at *
  have Bc := hx (show Blk wc (w.heap.size + 1) (dgl { d.d with path := (i : Int), tick := m.now, seq := (m.way i).next } d.p d.c) 50 by rw [← hwc]; exact ((Bb.out).set 2 _))
  have Kc := hx (show Kept [w.heap.size + 1] W0 wc by rw [← hwc]; exact (Kb.out.setCell (.inl (by simp)) _))
  clear hwc cc ff
  refine hK.out _ _ (HSK.out _ Kc.out) (fun _ => ?_)
  clear hK K
  try simp only [Act.put, List.getElem_toArray, List.getElem_cons_succ, List.getElem_cons_zero, List.setIfInBounds_toArray, List.set_cons_zero, List.set_cons_succ]
  refine wpAnyH_done (by kernel_rfl) ?_ _
  have HD := hx (show dgl { d.d with path := (i : Int), tick := m.now, seq := (m.way i).next } d.p d.c = dvl (stD m i d) from rfl)
  rw [HD.out] at Bc
  have cn := HSK.out _ Kc.out
  have c2 := cn.2
  have f2 := (Kc.out.blk B0.out (by simp)).free
  clear Ba Bb Ka Kb HD cn
  go_upto_region 3 with fail
  generalize hw4 : World.setCell wc _ _ = w4
  have B4 := hx (show Blk w4 w.heap.size (rsd (stM m i) a c) 40 from by
    rw [← hw4]
    refine (show ∀ x, x = ((nextU (m.way i).next : Nat) : Int) → Blk (wc.setCell ⟨w.heap.size, i * 78 + 77, none⟩ (.int .u32 x)) w.heap.size (rsd (stM m i) a c) 40 from fun x hx => by
      subst hx
      have h := (Kc.out.blk B0.out (by simp)).set (i * 78 + 77) (.int .u32 ((nextU (m.way i).next : Nat) : Int))
      rw [rsd_setN m a c HI.out] at h
      exact h) _ ?_
    unfold nextU
    first | rfl | (push_cast; rfl) | (push_cast; omega) | (rw [IntKind.wrap_u32]; push_cast; omega))
  have D4 := hx (show Blk w4 (w.heap.size + 1) (dvl (stD m i d)) 50 from by rw [← hw4]; exact Bc.out.set_ne (by simp) _)
  have R4 := hx (show Blk w4 (w.heap.size + 2) (rsd ms00 none 0) 40 from by rw [← hw4]; exact (Kc.out.blk R0.out (by simp)).set_ne (by simp) _)
  have Z4 := hx (show Blk w4 (w.heap.size + 3) (dvl dv0) 50 from by rw [← hw4]; exact (Kc.out.blk Z0.out (by simp)).set_ne (by simp) _)
  have K4 := hx (show Kept [] w w4 from by rw [← hw4]; exact (K0.out.trans Kc.out (fun _ h => h) (fun g hg => by simp at hg; subst hg; exact .inr (Nat.le_succ _))).setCell (.inr (Nat.le_refl _)) _)
  clear hw4 c2 f2 B0 D0 R0 Z0 K0 Bc Kc HSK
  have HS := hx (fun (W : World) (hk : Kept [w.heap.size + 2, w.heap.size + 3] w4 W) => show (fun w3 => w3.rangeAt w.heap.size 0 (rsd (stM m i) a c) ∧ w3.rangeAt (w.heap.size + 1) 0 (dvl (stD m i d))) W from ⟨(hk.blk B4.out (by simp)).range, (hk.blk D4.out (by simp)).range⟩)
  refine wp_region_held_drew (S := (fun w3 => w3.rangeAt w.heap.size 0 (rsd (stM m i) a c) ∧ w3.rangeAt (w.heap.size + 1) 0 (dvl (stD m i d)))) (by kernel_rfl) (HS.out _ (Kept.drew (Kept.refl _ w4))) (fun hHeld => ?_)
  refine take_by 0 28 (v := .agg (rsd (stM m i) a c).toArray) rfl rfl (by kernel_rfl) (by kernel_rfl) (by kernel_rfl) (fun _ _ _ h => h) (yieldsIf_load_mid (by rfl) 40 (.tmp 3) rfl w.heap.size (0) rfl (rsd (stM m i) a c) _ (fun _ hS => hS.1) Tryz.underlying40 rfl (infoRs2 _ _ _)) (by assumption) ?_
  try simp only [List.setIfInBounds_toArray, List.set_cons_zero, List.set_cons_succ]
  refine take_by 1 29 (v := .agg (dvl (stD m i d)).toArray) rfl rfl (by kernel_rfl) (by kernel_rfl) (by kernel_rfl) (fun _ _ _ h => h) (yieldsIf_load_mid (by rfl) 50 (.tmp 5) rfl (w.heap.size + 1) (0) rfl (dvl (stD m i d)) _ (fun _ hS => hS.2) Tryz.underlying50 rfl (by kernel_rfl)) (by assumption) ?_
  try simp only [List.setIfInBounds_toArray, List.set_cons_zero, List.set_cons_succ]
  refine wpAnyH_ready (rs := [2]) (by kernel_rfl) (by simp) ?_
  refine AllReadyH.cons rfl (fun K hK => ?_) AllReadyH.nil
  · refine Qd.step_storeB rfl 40 (.tmp 6) (.tmp 28) rfl (w.heap.size + 2) rfl 40 (rsd ms00 none 0) (rsd (stM m i) a c) rfl (drewB R4.out) (by rw [rsd_len, rsd_len]) (infoRs2 _ _ _) (rsd_one _ _ _) ?_
    intro w5 hb5 hk5
    have RA5 := hx hb5
    have K5 := hx (show Kept [w.heap.size + 2, w.heap.size + 3] w4 w5 from (Kept.drew (Kept.refl _ w4)).trans hk5 (fun _ h => h) (fun g hg => .inl (by simp at hg; subst hg; simp)))
    have Y5 := hx (hk5.blk (drewB Z4.out) (by simp))
    clear hb5 hk5
    refine hK.out _ _ (HS.out _ K5.out) (fun _ => ?_)
    clear hK K
    try simp only [Act.put, List.getElem_toArray, List.getElem_cons_succ, List.getElem_cons_zero, List.setIfInBounds_toArray, List.set_cons_zero, List.set_cons_succ]
    refine wpAnyH_ready (rs := [3]) (by kernel_rfl) (by simp) ?_
    refine AllReadyH.cons rfl (fun K hK => ?_) AllReadyH.nil
    refine Qd.step_storeB rfl 50 (.tmp 7) (.tmp 29) rfl (w.heap.size + 3) rfl 50 (dvl dv0) (dvl (stD m i d)) rfl Y5.out rfl infoDg (dvl_one _) ?_
    intro w6 hb6 hk6
    have RB := hx hb6
    have RA := hx (hk6.blk RA5.out (by simp))
    have K6 := hx (show Kept [w.heap.size + 2, w.heap.size + 3] w4 w6 from K5.out.trans hk6 (fun _ h => h) (fun g hg => .inl (by simp at hg; subst hg; simp)))
    clear hb6 hk6
    refine hK.out _ _ (HS.out _ K6.out) (fun _ => ?_)
    clear hK K
    try simp only [Act.put, List.getElem_toArray, List.getElem_cons_succ, List.getElem_cons_zero, List.setIfInBounds_toArray, List.set_cons_zero, List.set_cons_succ]
    refine wpAnyH_done (by kernel_rfl) ?_ _
    clear HS
    go_wp2_with fail
    exact bodyPost_ret (ret_two rfl _ (w.heap.size + 2) (w.heap.size + 3) _ _ _ _ _ _ rfl rfl RA.out RB.out Tryz.underlying40 rfl (infoRs2 _ _ _) Tryz.underlying50 rfl infoDg) rfl ⟨rfl, K4.out.trans K6.out (fun _ h => h) (fun g hg => by simp at hg; omega)⟩
end Go.Proofs.YtgdofgckjkmhjaaGreat.Mp
namespace Go.Proofs.YtgdofgckjkmhjaaGreat
open Go Go.RowKit
def dig (n i : Nat) : Nat := n / 65536 ^ i % 65536
def digs9 (f : Nat → Nat) : List Value := tab 9 fun i => .int .u64 (f i : Nat)
def wideF (neg : Bool) (f : Nat → Nat) : List Value := .bool neg :: digs9 f
def wide (neg : Bool) (n : Nat) : List Value := wideF neg (dig n)
theorem wideF_len (neg : Bool) (f : Nat → Nat) : (wideF neg f).length = 10 := by simp [wideF, digs9, tab_len]
theorem wide_len (neg : Bool) (n : Nat) : (wide neg n).length = 10 := wideF_len _ _
theorem wideF_one (neg : Bool) (f : Nat → Nat) : ∀ v ∈ wideF neg f, v.oneCell' = true := by
  intro v hv
  simp only [wideF, digs9, tab, List.mem_cons, List.mem_map] at hv
  rcases hv with rfl | ⟨i, _, rfl⟩ <;> rfl
theorem wideF_0 (neg : Bool) (f : Nat → Nat) : (wideF neg f)[0]? = some (.bool neg) := rfl
theorem wideF_get (neg : Bool) (f : Nat → Nat) {i : Nat} (h : i < 9) : (wideF neg f)[1 + i]? = some (.int .u64 (f i : Nat)) := by
  rw [Nat.add_comm]; show (digs9 f)[i]? = _; exact tab_get h
theorem wideF_set (neg : Bool) (f g : Nat → Nat) {i : Nat} {x : Nat} (h : i < 9) (hx : x = g i) (hf : ∀ j, j < 9 → j ≠ i → f j = g j) : (wideF neg f).set (1 + i) (.int .u64 (x : Nat)) = wideF neg g := by
  rw [Nat.add_comm]
  show Value.bool neg :: (digs9 f).set i _ = _
  unfold wideF digs9
  rw [tab_set (g := fun j => Value.int .u64 (g j : Nat)) h (by rw [hx]) (fun j hj hne => by rw [hf j hj hne])]
theorem wideF_set0 (neg neg' : Bool) (f : Nat → Nat) : (wideF neg f).set 0 (.bool neg') = wideF neg' f := rfl
theorem wideF_ext (neg : Bool) {f g : Nat → Nat} (h : ∀ j, j < 9 → f j = g j) : wideF neg f = wideF neg g := by
  unfold wideF digs9
  rw [tab_ext (fun j hj => by rw [h j hj])]
theorem infoW : (Tryz.prog.info? 154).map (·.size) = some 10 := by kernel_rfl
theorem zeroW (w : World) : (zeroValue 154).run Tryz.prog w = .ok (.agg (wideF false fun _ => 0).toArray) w := by kernel_rfl
/-- What a number with its sign is. -/
def wval (neg : Bool) (n : Nat) : Int := if neg then -(n : Int) else n
theorem dig_lt (n i : Nat) : dig n i < 65536 := Nat.mod_lt _ (by omega)
theorem dig_zero {n i : Nat} (h : n < 65536 ^ i) : dig n i = 0 := by unfold dig; rw [Nat.div_eq_of_lt h]
theorem div_next (n i : Nat) : n / 65536 ^ (i + 1) = n / 65536 ^ i / 65536 := by rw [Nat.pow_succ, Nat.div_div_eq_div_mul]
theorem dig_zero' {n i : Nat} (h : n < 18446744073709551616) (hi : 4 ≤ i) : dig n i = 0 :=
  dig_zero (Nat.lt_of_lt_of_le h (by rw [show 18446744073709551616 = 65536 ^ 4 by decide]; exact Nat.pow_le_pow_right (by omega) hi))
theorem load_w {w : World} {ops : Array Oper} {rest : List Oper} {o : Oper} {a : Act} {Q : Exit → Act → World → Prop} (hgd : o.guard = none) (x : Operand) (ho : o.op = .load 154 x)
    (g : Nat) (hx : a.eval x = .pointer (some ⟨g, 0, none⟩)) (neg : Bool) (f : Nat → Nat) (hb : Blk w g (wideF neg f) 154) (h : wpList Tryz.prog ops Q rest (a.put o.dst (.agg (wideF neg f).toArray)) w) : wpList Tryz.prog ops Q (o :: rest) a w :=
  load_blk hgd 154 x ho g hx 154 _ _ hb Tryz.underlying154 rfl (by rw [wideF_len]; exact infoW) h
theorem store_w {w : World} {ops : Array Oper} {rest : List Oper} {o : Oper} {a : Act} {Q : Exit → Act → World → Prop} (hgd : o.guard = none) (x y : Operand) (ho : o.op = .store 154 x y)
    (g : Nat) (hx : a.eval x = .pointer (some ⟨g, 0, none⟩)) (neg neg' : Bool) (f f' : Nat → Nat) (hy : a.eval y = .agg (wideF neg f).toArray) (hb : Blk w g (wideF neg' f') 154)
    (h : ∀ w', Blk w' g (wideF neg f) 154 → Kept [g] w w' → wpList Tryz.prog ops Q rest (a.put o.dst undef) w') : wpList Tryz.prog ops Q (o :: rest) a w :=
  store_blk hgd 154 x y ho g hx 154 _ _ hy hb (by rw [wideF_len, wideF_len]) (by rw [wideF_len]; exact infoW) (wideF_one neg f) h
theorem ret_w {w : World} {fn : Func} {p : Tmp} (h : fn.results = #[.cell p 154]) (tmps : Array Value) (g : Nat) (neg : Bool) (f : Nat → Nat)
    (hp : tmps.getD p undef = .pointer (some ⟨g, 0, none⟩)) (hb : Blk w g (wideF neg f) 154) : (results fn tmps).run Tryz.prog w = .ok (.agg (wideF neg f).toArray) w :=
  ret_blk h tmps g 154 _ _ hp hb Tryz.underlying154 rfl (by rw [wideF_len]; exact infoW)
set_option maxRecDepth 100000 in
set_option maxHeartbeats 800000 in
theorem of_any (n : Int) (N : Nat) (neg : Bool) (w : World) (hn : n = wval neg N) (h0 : neg = decide (n < 0)) (h1 : -9223372036854775808 ≤ n) (h2 : n ≤ 9223372036854775807) :
    Calls Tryz.prog 93 #[.int .i64 n] w fun e w' => e = .returned (.agg (wide neg N).toArray) ∧ Kept [] w w' := by
  have hz := zeroW
  have hN : N ≤ 9223372036854775808 := by unfold wval at hn; split at hn <;> omega
  have hfin : wideF neg (fun j => if j < 4 then dig N j else 0) = wide neg N := wideF_ext neg fun j hj => by
    by_cases h4 : j < 4
    · rw [if_pos h4]
    · rw [if_neg h4, dig_zero' (by omega) (by omega)]
  have hfin' := Lib.hid hfin
  clear hfin
  have hb1 := Blk.new (w.alloc (.cells (wideF false fun _ => 0).toArray 154)) (wideF false fun _ => 0) 154
  rw [World.size_alloc] at hb1
  have hb0 := (Blk.new w (wideF false fun _ => 0) 154).alloc (.cells (wideF false fun _ => 0).toArray 154)
  have c0 := hb1.cell (wideF_0 false fun _ => 0)
  have f0 := hb1.free 0
  have hk0 : Kept [] w ((w.alloc (.cells (wideF false fun _ => 0).toArray 154)).alloc (.cells (wideF false fun _ => 0).toArray 154)) := ((Kept.refl _ _).alloc _).alloc _
  have hbt := Blk.new (w.alloc (.cells (wideF false fun _ => 0).toArray 154)) (wideF true fun _ => 0) 154
  rw [World.size_alloc] at hbt
  by_cases hneg : n < 0
  · have hnb : neg = true := by rw [h0]; simpa using hneg
    subst hnb
    have hNn : n = -(N : Int) := by unfold wval at hn; simpa using hn
    have hw1 : IntKind.u64.wrap n = ((18446744073709551616 - N : Nat) : Int) := by rw [IntKind.wrap_u64]; omega
    have hw2 : IntKind.u64.wrap (-((18446744073709551616 - N : Nat) : Int)) = (N : Int) := by rw [IntKind.wrap_u64]; omega
    have hnu : N < 18446744073709551616 := by omega
    clear hN hn h0 hNn
    go_wp2
    go_loopw [4, 5] (fun u i wr => ∃ k : Nat, k ≤ 4 ∧ i = .int .i64 k ∧ u = .int .u64 ((N / 65536 ^ k : Nat) : Int) ∧ Blk wr w.heap.size (wideF false fun _ => 0) 154 ∧ Blk wr (w.heap.size + 1) (wideF true fun j => if j < k then dig N j else 0) 154 ∧ Kept [] w wr) (fun _ i _ => 4 - (intOf i).toNat)
    case atStart => exact ⟨0, by omega, rfl, by simp, (Blk.new w (wideF false fun _ => 0) _).alloc _, hbt, ((Kept.refl _ _).alloc _).alloc _⟩
    case round =>
      obtain ⟨k, hk4, rfl, rfl, ha, hb, hkr⟩ := hrel
      clear hz c0 f0 hb0 hb1 hk0
      by_cases hlt : k < 4
      · have hx : N / 65536 ^ k < 18446744073709551616 := Nat.lt_of_le_of_lt (Nat.div_le_self _ _) (by omega)
        have hd := Lib.hid (div_next N k)
        have hdg := Lib.hid (show N / 65536 ^ k % 65536 = dig N k from rfl)
        generalize N / 65536 ^ k = u at *
        have hcell := hb.cell (wideF_get true _ (show k < 9 by omega))
        have hfree := hb.free (1 + k)
        go_wp2
        go_roundw
        case rel =>
          refine ⟨k + 1, by omega, by go_num, by rw [hd.out]; simp, ha.set_ne (by simp) _, ?_, hkr.setCell (p := ⟨_, _, none⟩) (.inr (Nat.le_succ _)) _⟩
          have h := hb.set (1 + k) (.int .u64 ((u % 65536 : Nat) : Int))
          rw [wideF_set true _ (fun j => if j < k + 1 then dig N j else 0) (show k < 9 by omega) (by rw [hdg.out, if_pos (by omega)]) (fun j hj hne => by
            by_cases h5 : j < k
            · rw [if_pos h5, if_pos (by omega)]
            · rw [if_neg h5, if_neg (by omega)])] at h
          simpa using h
        case measure => simp [intOf] <;> omega
      · obtain rfl : k = 4 := by omega
        rw [hfin'.out] at hb
        go_wp2_with (first | (refine load_w rfl (.tmp 3) rfl (w.heap.size + 1) rfl _ _ hb ?_) | (refine store_w rfl (.tmp 2) (.tmp 24) rfl w.heap.size rfl _ _ _ _ rfl ha ?_))
        intro w2 hb3 hk
        go_wp2
        exact bodyPost_ret (ret_w rfl _ w.heap.size _ _ rfl hb3) rfl ⟨rfl, hkr.trans hk (fun _ h => h) (fun x h => by simp at h; right; omega)⟩
  · have hnb : neg = false := by rw [h0]; simpa using hneg
    subst hnb
    have hNn : n = (N : Int) := by unfold wval at hn; simpa using hn
    have hw1 : IntKind.u64.wrap n = (N : Int) := by rw [IntKind.wrap_u64]; omega
    have hnu : N < 18446744073709551616 := by omega
    clear hN hn h0 hNn c0 f0
    go_wp2
    go_loopw [4, 5] (fun u i wr => ∃ k : Nat, k ≤ 4 ∧ i = .int .i64 k ∧ u = .int .u64 ((N / 65536 ^ k : Nat) : Int) ∧ Blk wr w.heap.size (wideF false fun _ => 0) 154 ∧ Blk wr (w.heap.size + 1) (wideF false fun j => if j < k then dig N j else 0) 154 ∧ Kept [] w wr) (fun _ i _ => 4 - (intOf i).toNat)
    case atStart => exact ⟨0, by omega, rfl, by simp, hb0, hb1, hk0⟩
    case round =>
      obtain ⟨k, hk4, rfl, rfl, ha, hb, hkr⟩ := hrel
      clear hz hb0 hb1 hk0
      by_cases hlt : k < 4
      · have hx : N / 65536 ^ k < 18446744073709551616 := Nat.lt_of_le_of_lt (Nat.div_le_self _ _) (by omega)
        have hd := Lib.hid (div_next N k)
        have hdg := Lib.hid (show N / 65536 ^ k % 65536 = dig N k from rfl)
        generalize N / 65536 ^ k = u at *
        have hcell := hb.cell (wideF_get false _ (show k < 9 by omega))
        have hfree := hb.free (1 + k)
        go_wp2
        go_roundw
        case rel =>
          refine ⟨k + 1, by omega, by go_num, by rw [hd.out]; simp, ha.set_ne (by simp) _, ?_, hkr.setCell (p := ⟨_, _, none⟩) (.inr (Nat.le_succ _)) _⟩
          have h := hb.set (1 + k) (.int .u64 ((u % 65536 : Nat) : Int))
          rw [wideF_set false _ (fun j => if j < k + 1 then dig N j else 0) (show k < 9 by omega) (by rw [hdg.out, if_pos (by omega)]) (fun j hj hne => by
            by_cases h5 : j < k
            · rw [if_pos h5, if_pos (by omega)]
            · rw [if_neg h5, if_neg (by omega)])] at h
          simpa using h
        case measure => simp [intOf] <;> omega
      · obtain rfl : k = 4 := by omega
        rw [hfin'.out] at hb
        go_wp2_with (first | (refine load_w rfl (.tmp 3) rfl (w.heap.size + 1) rfl _ _ hb ?_) | (refine store_w rfl (.tmp 2) (.tmp 24) rfl w.heap.size rfl _ _ _ _ rfl ha ?_))
        intro w2 hb3 hk
        go_wp2
        exact bodyPost_ret (ret_w rfl _ w.heap.size _ _ rfl hb3) rfl ⟨rfl, hkr.trans hk (fun _ h => h) (fun x h => by simp at h; right; omega)⟩
end Go.Proofs.YtgdofgckjkmhjaaGreat
namespace Go.Proofs.YtgdofgckjkmhjaaGreat
open Go Go.RowKit
/-- The carry into place k. -/
def car (a b k : Nat) : Nat := (a % 65536 ^ k + b % 65536 ^ k) / 65536 ^ k
theorem pw_pos (k : Nat) : 0 < 65536 ^ k := Nat.pow_pos (by omega)
theorem mod_next (a k : Nat) : a % 65536 ^ (k + 1) = a % 65536 ^ k + 65536 ^ k * dig a k := by rw [Nat.pow_succ, Nat.mod_mul]; rfl
theorem car_0 (a b : Nat) : car a b 0 = 0 := by simp [car, Nat.mod_one]
theorem car_lt (a b k : Nat) : car a b k < 2 := by
  unfold car
  have h1 := Nat.mod_lt a (pw_pos k)
  have h2 := Nat.mod_lt b (pw_pos k)
  rw [Nat.div_lt_iff_lt_mul (pw_pos k)]
  omega
theorem car_next (a b k : Nat) : car a b (k + 1) = (dig a k + dig b k + car a b k) / 65536 := by
  unfold car
  rw [mod_next, mod_next, Nat.pow_succ, ← Nat.div_div_eq_div_mul]
  congr 1
  rw [show a % 65536 ^ k + 65536 ^ k * dig a k + (b % 65536 ^ k + 65536 ^ k * dig b k) = (a % 65536 ^ k + b % 65536 ^ k) + 65536 ^ k * (dig a k + dig b k) by rw [Nat.mul_add]; omega, Nat.add_mul_div_left _ _ (pw_pos k)]
  omega
theorem dig_add (a b k : Nat) : dig (a + b) k = (dig a k + dig b k + car a b k) % 65536 := by
  have e : (a + b) / 65536 ^ k = a / 65536 ^ k + b / 65536 ^ k + car a b k := by
    unfold car
    have h1 := Nat.div_add_mod a (65536 ^ k)
    have h2 := Nat.div_add_mod b (65536 ^ k)
    rw [show a + b = (a % 65536 ^ k + b % 65536 ^ k) + 65536 ^ k * (a / 65536 ^ k + b / 65536 ^ k) by rw [Nat.mul_add]; omega, Nat.add_mul_div_left _ _ (pw_pos k)]
    exact Nat.add_comm _ _
  unfold dig
  rw [e]
  omega
/-- What is taken at place k. -/
def bor (a b k : Nat) : Nat := if a % 65536 ^ k < b % 65536 ^ k then 1 else 0
theorem bor_0 (a b : Nat) : bor a b 0 = 0 := by simp [bor, Nat.mod_one]
theorem bor_lt (a b k : Nat) : bor a b k < 2 := by unfold bor; split <;> omega
theorem bor_next (a b k : Nat) : bor a b (k + 1) = 1 - (dig a k + 65536 - dig b k - bor a b k) / 65536 := by
  unfold bor
  rw [mod_next, mod_next]
  have h1 := Nat.mod_lt a (pw_pos k)
  have h2 := Nat.mod_lt b (pw_pos k)
  have h3 := dig_lt a k
  have h4 := dig_lt b k
  generalize dig a k = x at *
  generalize dig b k = y at *
  generalize a % 65536 ^ k = r at *
  generalize b % 65536 ^ k = s at *
  generalize 65536 ^ k = m at *
  rcases Nat.lt_trichotomy x y with h | h | h
  · have : m * x + m ≤ m * y := by rw [← Nat.mul_succ]; exact Nat.mul_le_mul_left _ h
    rw [if_pos (by omega)]
    split <;> omega
  · subst h
    split <;> split <;> omega
  · have : m * y + m ≤ m * x := by rw [← Nat.mul_succ]; exact Nat.mul_le_mul_left _ h
    rw [if_neg (by omega)]
    split <;> omega
theorem dig_sub (a b k : Nat) (h : b ≤ a) : dig (a - b) k = (dig a k + 65536 - dig b k - bor a b k) % 65536 := by
  have e : (a - b) / 65536 ^ k + b / 65536 ^ k + bor a b k = a / 65536 ^ k := by
    unfold bor
    have h1 := Nat.div_add_mod a (65536 ^ k)
    have h2 := Nat.div_add_mod b (65536 ^ k)
    have h3 := Nat.mod_lt a (pw_pos k)
    have h4 := Nat.mod_lt b (pw_pos k)
    have hp := pw_pos k
    generalize a % 65536 ^ k = r at *
    generalize b % 65536 ^ k = s at *
    generalize a / 65536 ^ k = x at *
    generalize b / 65536 ^ k = y at *
    generalize 65536 ^ k = m at *
    split
    · rename_i hlt
      have hxy : y + 1 ≤ x := by
        rcases Nat.lt_or_ge y x with g | g
        · exact g
        · have := Nat.mul_le_mul_left m g
          omega
      obtain ⟨d, rfl⟩ : ∃ d, x = y + 1 + d := ⟨x - (y + 1), by omega⟩
      have e2 : a - b = (m + r - s) + m * d := by
        have e3 : m * (y + 1 + d) = m * y + m + m * d := by rw [Nat.mul_add, Nat.mul_add, Nat.mul_one]
        omega
      rw [e2, Nat.add_mul_div_left _ _ hp, Nat.div_eq_of_lt (by omega)]
      omega
    · rename_i hlt
      have hxy : y ≤ x := by
        rcases Nat.lt_or_ge x y with g | g
        · have : m * x + m ≤ m * y := by rw [← Nat.mul_succ]; exact Nat.mul_le_mul_left _ g
          omega
        · exact g
      obtain ⟨d, rfl⟩ : ∃ d, x = y + d := ⟨x - y, by omega⟩
      have e2 : a - b = (r - s) + m * d := by
        have e3 : m * (y + d) = m * y + m * d := Nat.mul_add _ _ _
        omega
      rw [e2, Nat.add_mul_div_left _ _ hp, Nat.div_eq_of_lt (by omega)]
      omega
  have hb := bor_lt a b k
  unfold dig
  generalize bor a b k = t at *
  omega
theorem lt_div {a b m : Nat} (h : a / m < b / m) : a < b := by
  rcases Nat.lt_or_ge a b with g | g
  · exact g
  · have := Nat.div_le_div_right (c := m) g
    omega
set_option maxRecDepth 100000 in
set_option maxHeartbeats 800000 in
theorem plus_any (na nb : Bool) (A B : Nat) (w : World) :
    Calls Tryz.prog 102 #[.agg (wide na A).toArray, .agg (wide nb B).toArray] w fun e w' => e = .returned (.agg (wide na (A + B)).toArray) ∧ Kept [] w w' := by
  have hz := zeroW
  have hb0 := Blk.new w (wide na A) 154
  have hb1 := Blk.new (w.alloc (.cells (wide na A).toArray 154)) (wide nb B) 154
  have hb2 := Blk.new ((w.alloc (.cells (wide na A).toArray 154)).alloc (.cells (wide nb B).toArray 154)) (wideF false fun _ => 0) 154
  rw [World.size_alloc] at hb1
  rw [World.size_alloc, World.size_alloc] at hb2
  go_enter Tryz.func102, Tryz.ntmps102
  go_wp2
  go_loopw [5, 6] (fun c i wr => ∃ k : Nat, k ≤ 9 ∧ i = .int .i64 k ∧ c = .int .u64 ((car A B k : Nat) : Int) ∧ Blk wr w.heap.size (wideF na fun j => if j < k then dig (A + B) j else dig A j) 154 ∧ Blk wr (w.heap.size + 1) (wide nb B) 154 ∧ Blk wr (w.heap.size + 1 + 1) (wideF false fun _ => 0) 154 ∧ Kept [] w wr) (fun _ i _ => 9 - (intOf i).toNat)
  case atStart => exact ⟨0, by omega, rfl, by rw [car_0]; rfl, (hb0.alloc _).alloc _, hb1.alloc _, hb2, (((Kept.refl _ _).alloc _).alloc _).alloc _⟩
  case round =>
    obtain ⟨k, hk9, rfl, rfl, h0, h1, h2, hkr⟩ := hrel
    clear hz hb0 hb1 hb2
    by_cases hlt : k < 9
    · have c0 := h0.cell (wideF_get na _ hlt)
      rw [if_neg (Nat.lt_irrefl k)] at c0
      have c1 : wr.cell? ⟨w.heap.size + 1, 1 + k, none⟩ = some (.int .u64 (dig B k : Nat)) := h1.cell (wideF_get nb (dig B) hlt)
      have f0 := h0.free (1 + k)
      have hx := dig_lt A k
      have hy := dig_lt B k
      have hc := car_lt A B k
      have hcn := Lib.hid (car_next A B k)
      have hdn := Lib.hid (dig_add A B k)
      generalize dig A k = x at *
      generalize dig B k = y at *
      generalize car A B k = c at *
      have b0 : (0 : Int) ≤ (k : Int) := by omega
      have b1 : (k : Int) < 9 := by omega
      have s1 : IntKind.u64.wrap ((x : Int) + (y : Int)) = (x : Int) + (y : Int) := by rw [IntKind.wrap_u64]; omega
      have s2 : IntKind.u64.wrap ((x : Int) + (y : Int) + (c : Int)) = (x : Int) + (y : Int) + (c : Int) := by rw [IntKind.wrap_u64]; omega
      go_wp2
      go_quiet (fail)
      clear s1 s2
      go_wp2
      go_roundw
      case rel =>
        refine ⟨k + 1, by omega, by go_num, by rw [hcn.out]; simp, ?_, h1.set_ne (by simp) _, h2.set_ne (by simp; omega) _, (hkr.drewN _).setCell (p := ⟨_, _, none⟩) (.inr (by simp)) _⟩
        have h := (h0.drewN nq).set (1 + k) (.int .u64 (((x + y + c) % 65536 : Nat) : Int))
        rw [wideF_set na _ (fun j => if j < k + 1 then dig (A + B) j else dig A j) hlt (by rw [if_pos (by omega), hdn.out]) (fun j hj hne => by
          by_cases h5 : j < k
          · rw [if_pos h5, if_pos (by omega)]
          · rw [if_neg h5, if_neg (by omega)])] at h
        simpa using h
      case measure => simp [intOf] <;> omega
    · obtain rfl : k = 9 := by omega
      have h0' : Blk wr w.heap.size (wide na (A + B)) 154 := by
        have e : wideF na (fun j => if j < 9 then dig (A + B) j else dig A j) = wide na (A + B) := wideF_ext na fun j hj => by rw [if_pos hj]
        rw [← e]; exact h0
      clear h0
      go_wp2_with (first | (refine load_w rfl (.tmp 2) rfl w.heap.size rfl na (dig (A + B)) h0' ?_) | (refine store_w rfl (.tmp 4) (.tmp 30) rfl (w.heap.size + 1 + 1) rfl _ _ _ _ rfl h2 ?_))
      intro w2 hb3 hk
      go_wp2
      exact bodyPost_ret (ret_w rfl _ (w.heap.size + 1 + 1) _ _ rfl hb3) rfl ⟨rfl, hkr.trans hk (fun _ h => h) (fun x h => by simp at h; right; omega)⟩
set_option maxRecDepth 100000 in
set_option maxHeartbeats 800000 in
theorem minus_any (na nb : Bool) (A B : Nat) (hAB : B ≤ A) (w : World) :
    Calls Tryz.prog 104 #[.agg (wide na A).toArray, .agg (wide nb B).toArray] w fun e w' => e = .returned (.agg (wide na (A - B)).toArray) ∧ Kept [] w w' := by
  have hz := zeroW
  have hb0 := Blk.new w (wide na A) 154
  have hb1 := Blk.new (w.alloc (.cells (wide na A).toArray 154)) (wide nb B) 154
  have hb2 := Blk.new ((w.alloc (.cells (wide na A).toArray 154)).alloc (.cells (wide nb B).toArray 154)) (wideF false fun _ => 0) 154
  rw [World.size_alloc] at hb1
  rw [World.size_alloc, World.size_alloc] at hb2
  go_enter Tryz.func104, Tryz.ntmps104
  go_wp2
  go_loopw [5, 6] (fun c i wr => ∃ k : Nat, k ≤ 9 ∧ i = .int .i64 k ∧ c = .int .u64 ((bor A B k : Nat) : Int) ∧ Blk wr w.heap.size (wideF na fun j => if j < k then dig (A - B) j else dig A j) 154 ∧ Blk wr (w.heap.size + 1) (wide nb B) 154 ∧ Blk wr (w.heap.size + 1 + 1) (wideF false fun _ => 0) 154 ∧ Kept [] w wr) (fun _ i _ => 9 - (intOf i).toNat)
  case atStart => exact ⟨0, by omega, rfl, by rw [bor_0]; rfl, (hb0.alloc _).alloc _, hb1.alloc _, hb2, (((Kept.refl _ _).alloc _).alloc _).alloc _⟩
  case round =>
    obtain ⟨k, hk9, rfl, rfl, h0, h1, h2, hkr⟩ := hrel
    clear hz hb0 hb1 hb2
    by_cases hlt : k < 9
    · have c0 := h0.cell (wideF_get na _ hlt)
      rw [if_neg (Nat.lt_irrefl k)] at c0
      have c1 : wr.cell? ⟨w.heap.size + 1, 1 + k, none⟩ = some (.int .u64 (dig B k : Nat)) := h1.cell (wideF_get nb (dig B) hlt)
      have f0 := h0.free (1 + k)
      have hx := dig_lt A k
      have hy := dig_lt B k
      have hc := bor_lt A B k
      have hcn := Lib.hid (bor_next A B k)
      have hdn := Lib.hid (dig_sub A B k hAB)
      generalize dig A k = x at *
      generalize dig B k = y at *
      generalize bor A B k = c at *
      have b0 : (0 : Int) ≤ (k : Int) := by omega
      have b1 : (k : Int) < 9 := by omega
      have s1 : IntKind.u64.wrap ((x : Int) + 65536) = (x : Int) + 65536 := by rw [IntKind.wrap_u64]; omega
      have s2 : IntKind.u64.wrap ((x : Int) + 65536 - (y : Int)) = (x : Int) + 65536 - (y : Int) := by rw [IntKind.wrap_u64]; omega
      have s3 : IntKind.u64.wrap ((x : Int) + 65536 - (y : Int) - (c : Int)) = ((x + 65536 - y - c : Nat) : Int) := by rw [IntKind.wrap_u64]; omega
      have hs : x + 65536 - y - c < 131072 := by omega
      generalize x + 65536 - y - c = z at *
      go_wp2
      go_quiet (fail)
      clear s1 s2 s3
      go_wp2
      go_roundw
      case rel =>
        refine ⟨k + 1, by omega, by go_num, by rw [hcn.out]; congr 1; omega, ?_, h1.set_ne (by simp) _, h2.set_ne (by simp; omega) _, (hkr.drewN _).setCell (p := ⟨_, _, none⟩) (.inr (by simp)) _⟩
        have h := (h0.drewN nq).set (1 + k) (.int .u64 ((z % 65536 : Nat) : Int))
        rw [wideF_set na _ (fun j => if j < k + 1 then dig (A - B) j else dig A j) hlt (by rw [if_pos (by omega), hdn.out]) (fun j hj hne => by
          by_cases h5 : j < k
          · rw [if_pos h5, if_pos (by omega)]
          · rw [if_neg h5, if_neg (by omega)])] at h
        simpa using h
      case measure => simp [intOf] <;> omega
    · obtain rfl : k = 9 := by omega
      have h0' : Blk wr w.heap.size (wide na (A - B)) 154 := by
        have e : wideF na (fun j => if j < 9 then dig (A - B) j else dig A j) = wide na (A - B) := wideF_ext na fun j hj => by rw [if_pos hj]
        rw [← e]; exact h0
      clear h0
      go_wp2_with (first | (refine load_w rfl (.tmp 2) rfl w.heap.size rfl na (dig (A - B)) h0' ?_) | (refine store_w rfl (.tmp 4) (.tmp 32) rfl (w.heap.size + 1 + 1) rfl _ _ _ _ rfl h2 ?_))
      intro w2 hb3 hk
      go_wp2
      exact bodyPost_ret (ret_w rfl _ (w.heap.size + 1 + 1) _ _ rfl hb3) rfl ⟨rfl, hkr.trans hk (fun _ h => h) (fun x h => by simp at h; right; omega)⟩
set_option maxRecDepth 100000 in
set_option maxHeartbeats 800000 in
theorem less_any (na nb : Bool) (A B : Nat) (hA : A < 65536 ^ 9) (hB : B < 65536 ^ 9) (w : World) :
    Calls Tryz.prog 103 #[.agg (wide na A).toArray, .agg (wide nb B).toArray] w fun e w' => e = .returned (.bool (decide (A < B))) ∧ Kept [] w w' := by
  have hb0 := Blk.new w (wide na A) 154
  have hb1 := Blk.new (w.alloc (.cells (wide na A).toArray 154)) (wide nb B) 154
  rw [World.size_alloc] at hb1
  have hA' := Lib.hid hA
  have hB' := Lib.hid hB
  clear hA hB
  go_enter Tryz.func103, Tryz.ntmps103
  go_wp2
  go_loopw [5] (fun i wr => ∃ k : Nat, k ≤ 9 ∧ i = .int .i64 ((k : Int) - 1) ∧ A / 65536 ^ k = B / 65536 ^ k ∧ Blk wr w.heap.size (wide na A) 154 ∧ Blk wr (w.heap.size + 1) (wide nb B) 154 ∧ Kept [] w wr) (fun i _ => (intOf i + 1).toNat)
  case atStart => exact ⟨9, by omega, rfl, by rw [Nat.div_eq_of_lt hA'.out, Nat.div_eq_of_lt hB'.out], hb0.alloc _, hb1, ((Kept.refl _ _).alloc _).alloc _⟩
  case round =>
    obtain ⟨m, hm, rfl, hq, h0, h1, hkr⟩ := hrel
    have hq' := Lib.hid hq
    clear hq hb0 hb1
    by_cases hm0 : m = 0
    · subst hm0
      have he := hq'.out
      rw [Nat.pow_zero, Nat.div_one, Nat.div_one] at he
      have hd := Lib.hid (show decide (A < B) = false by apply decide_eq_false; omega)
      clear he
      go_wp2
      go_ret
      exact ⟨by rw [hd.out]; rfl, hkr⟩
    · obtain ⟨k, rfl⟩ : ∃ k, m = k + 1 := ⟨m - 1, by omega⟩
      have e1 : ((k + 1 : Nat) : Int) - 1 = (k : Int) := by omega
      rw [e1]
      clear e1
      have hlt : k < 9 := by omega
      have c0 : wr.cell? ⟨w.heap.size, 1 + k, none⟩ = some (.int .u64 (dig A k : Nat)) := h0.cell (wideF_get na (dig A) hlt)
      have c1 : wr.cell? ⟨w.heap.size + 1, 1 + k, none⟩ = some (.int .u64 (dig B k : Nat)) := h1.cell (wideF_get nb (dig B) hlt)
      have hx := dig_lt A k
      have hy := dig_lt B k
      have hA1 : Hid (A / 65536 ^ k = A / 65536 ^ (k + 1) * 65536 + dig A k) := by have := div_next A k; unfold dig; show _ = _; omega
      have hB1 : Hid (B / 65536 ^ k = B / 65536 ^ (k + 1) * 65536 + dig B k) := by have := div_next B k; unfold dig; show _ = _; omega
      generalize dig A k = x at *
      generalize dig B k = y at *
      have b0 : (0 : Int) ≤ (k : Int) := by omega
      have b1 : (k : Int) < 9 := by omega
      by_cases hxy : x = y
      · subst hxy
        have hstep : Hid (A / 65536 ^ k = B / 65536 ^ k) := by show _ = _; rw [hA1.out, hB1.out, hq'.out]
        go_wp2
        go_quiet (fail)
        go_wp2
        go_roundw
        case rel => exact ⟨k, by omega, rfl, hstep.out, h0, h1, hkr.drewN _⟩
        case measure => simp [intOf] <;> omega
      · have hne : ((x : Int) != (y : Int)) = true := by rw [bne_iff_ne]; omega
        have hres : Hid (decide (A < B) = decide ((x : Int) < (y : Int))) := by
          show _ = _
          have g1 := hA1.out
          have g2 := hB1.out
          rw [hq'.out] at g1
          rcases Nat.lt_or_gt_of_ne hxy with h | h
          · have := lt_div (show A / 65536 ^ k < B / 65536 ^ k by omega)
            rw [decide_eq_true this, decide_eq_true (by omega)]
          · have := lt_div (show B / 65536 ^ k < A / 65536 ^ k by omega)
            rw [decide_eq_false (by omega), decide_eq_false (by omega)]
        have hxy' := Lib.hid hxy
        clear hxy
        go_wp2
        go_quiet (fail)
        go_wp2
        go_quiet (fail)
        go_wp2
        go_ret
        exact ⟨by rw [hres.out]; simp, (hkr.drewN _).drewN _⟩
end Go.Proofs.YtgdofgckjkmhjaaGreat
namespace Go.Proofs.YtgdofgckjkmhjaaGreat
open Go Go.RowKit
def carT (c B k : Nat) : Nat := c * (B % 65536 ^ k) / 65536 ^ k
theorem carT_0 (c B : Nat) : carT c B 0 = 0 := by simp [carT, Nat.mod_one]
theorem carT_lt (c B k : Nat) (hc : c < 65536) : carT c B k < 65536 := by
  unfold carT
  have hp := pw_pos k
  rw [Nat.div_lt_iff_lt_mul hp]
  have h1 : B % 65536 ^ k < 65536 ^ k := Nat.mod_lt _ hp
  calc c * (B % 65536 ^ k) ≤ 65535 * 65536 ^ k := Nat.mul_le_mul (by omega) (by omega)
    _ < 65536 * 65536 ^ k := Nat.mul_lt_mul_of_pos_right (by omega) hp
theorem carT_step (c B k : Nat) : c * (B % 65536 ^ (k + 1)) / 65536 ^ k = c * dig B k + carT c B k := by
  unfold carT
  rw [mod_next, Nat.mul_add, Nat.mul_left_comm, Nat.add_mul_div_left _ _ (pw_pos k), Nat.add_comm]
theorem carT_next (c B k : Nat) : carT c B (k + 1) = (c * dig B k + carT c B k) / 65536 := by
  rw [← carT_step]
  unfold carT
  rw [Nat.div_div_eq_div_mul, ← Nat.pow_succ]
theorem dig_mul (c B k : Nat) : dig (c * B) k = (c * dig B k + carT c B k) % 65536 := by
  rw [← carT_step]
  unfold dig
  have h : c * B = c * (B % 65536 ^ (k + 1)) + 65536 ^ k * (65536 * (c * (B / 65536 ^ (k + 1)))) := by
    have e := Nat.mod_add_div B (65536 ^ (k + 1))
    have e2 : 65536 ^ k * (65536 * (c * (B / 65536 ^ (k + 1)))) = c * (65536 ^ (k + 1) * (B / 65536 ^ (k + 1))) := by
      rw [Nat.pow_succ]
      simp only [Nat.mul_assoc, Nat.mul_left_comm, Nat.mul_comm]
    rw [e2, ← Nat.mul_add, e]
  rw [h, Nat.add_mul_div_left _ _ (pw_pos k), Nat.add_mul_mod_self_left]
theorem dig_last (c B : Nat) (hc : c < 65536) (hB : B < 65536 ^ 4) : carT c B 4 = dig (c * B) 4 := by
  have h := carT_lt c B 4 hc
  unfold carT dig at *
  rw [Nat.mod_eq_of_lt hB] at *
  rw [Nat.mod_eq_of_lt h]
theorem dig_high (c B j : Nat) (hc : c < 65536) (hB : B < 65536 ^ 4) (hj : 5 ≤ j) : dig (c * B) j = 0 := by
  refine dig_zero (Nat.lt_of_lt_of_le ?_ (Nat.pow_le_pow_right (by omega) hj))
  rw [Nat.pow_succ, Nat.mul_comm (65536 ^ 4)]
  calc c * B ≤ c * 65536 ^ 4 := Nat.mul_le_mul_left _ (by omega)
    _ < 65536 * 65536 ^ 4 := Nat.mul_lt_mul_of_pos_right hc (pw_pos 4)
theorem dig_shift (n i j : Nat) : dig (n * 65536 ^ i) j = if j < i then 0 else dig n (j - i) := by
  unfold dig
  split
  · rename_i h
    obtain ⟨d, rfl⟩ : ∃ d, i = j + (d + 1) := ⟨i - j - 1, by omega⟩
    rw [Nat.pow_add, Nat.mul_left_comm, Nat.mul_div_cancel_left _ (pw_pos j), Nat.pow_succ, ← Nat.mul_assoc, Nat.mul_mod_left]
  · obtain ⟨d, rfl⟩ : ∃ d, j = i + d := ⟨j - i, by omega⟩
    rw [Nat.pow_add, ← Nat.div_div_eq_div_mul, Nat.mul_div_cancel _ (pw_pos i), show i + d - i = d by omega]
theorem out_next (A B i : Nat) : A % 65536 ^ i * B + dig A i * B * 65536 ^ i = A % 65536 ^ (i + 1) * B := by
  rw [mod_next, Nat.add_mul]
  congr 1
  simp only [Nat.mul_comm, Nat.mul_left_comm]
/-- The row of one digit, so far. -/
def rowF (c B i k : Nat) : Nat → Nat := fun j => if j < i then 0 else if j < i + k then dig (c * B) (j - i) else 0
theorem rowF_0 (c B i : Nat) : wideF false (rowF c B i 0) = wideF false fun _ => 0 := wideF_ext _ fun j _ => by unfold rowF; split; rfl; rw [if_neg (by omega)]
theorem rowF_set (c B i k x : Nat) (hik : i + k < 9) (hx : x = dig (c * B) k) : (wideF false (rowF c B i k)).set (1 + (i + k)) (.int .u64 (x : Nat)) = wideF false (rowF c B i (k + 1)) :=
  wideF_set _ _ _ hik (by unfold rowF; rw [if_neg (by omega), if_pos (by omega), hx, show i + k - i = k by omega]) fun j hj hne => by
    unfold rowF
    by_cases h1 : j < i
    · rw [if_pos h1, if_pos h1]
    · rw [if_neg h1, if_neg h1]
      by_cases h2 : j < i + k
      · rw [if_pos h2, if_pos (by omega)]
      · rw [if_neg h2, if_neg (by omega)]
theorem rowF_5 (c B i : Nat) (hc : c < 65536) (hB : B < 65536 ^ 4) : wideF false (rowF c B i 5) = wide false (c * B * 65536 ^ i) :=
  wideF_ext _ fun j hj => by
    unfold rowF
    rw [dig_shift]
    by_cases h1 : j < i
    · rw [if_pos h1, if_pos h1]
    · rw [if_neg h1, if_neg h1]
      by_cases h2 : j < i + 5
      · rw [if_pos h2]
      · rw [if_neg h2, dig_high c B _ hc hB (by omega)]
structure TmW (w wr : World) (na nb : Bool) (A B X : Nat) : Prop where
  a : Blk wr w.heap.size (wide na A) 154
  b : Blk wr (w.heap.size + 1) (wide nb B) 154
  r : Blk wr (w.heap.size + 1 + 1) (wideF false fun _ => 0) 154
  o : Blk wr (w.heap.size + 1 + 1 + 1) (wide false X) 154
  k : Kept [] w wr
theorem wide_0 : wide false 0 = wideF false fun _ => 0 := wideF_ext _ fun j _ => by simp [dig]
theorem TmW.start (w : World) (na nb : Bool) (A B : Nat) : TmW w ((((w.alloc (.cells (wide na A).toArray 154)).alloc (.cells (wide nb B).toArray 154)).alloc (.cells (wideF false fun _ => 0).toArray 154)).alloc (.cells (wideF false fun _ => 0).toArray 154)) na nb A B 0 := by
  have h0 := Blk.new w (wide na A) 154
  have h1 := Blk.new (w.alloc (.cells (wide na A).toArray 154)) (wide nb B) 154
  have h2 := Blk.new ((w.alloc (.cells (wide na A).toArray 154)).alloc (.cells (wide nb B).toArray 154)) (wideF false fun _ => 0) 154
  have h3 := Blk.new (((w.alloc (.cells (wide na A).toArray 154)).alloc (.cells (wide nb B).toArray 154)).alloc (.cells (wideF false fun _ => 0).toArray 154)) (wideF false fun _ => 0) 154
  rw [World.size_alloc] at h1
  rw [World.size_alloc, World.size_alloc] at h2
  rw [World.size_alloc, World.size_alloc, World.size_alloc] at h3
  exact ⟨((h0.alloc _).alloc _).alloc _, (h1.alloc _).alloc _, h2.alloc _, by rw [wide_0]; exact h3, ((((Kept.refl _ _).alloc _).alloc _).alloc _).alloc _⟩
theorem TmW.kept {w wr w2 : World} {na nb : Bool} {A B X : Nat} (h : TmW w wr na nb A B X) (hk : Kept [] wr w2) : TmW w w2 na nb A B X :=
  ⟨hk.blk h.a (by simp), hk.blk h.b (by simp), hk.blk h.r (by simp), hk.blk h.o (by simp), h.k.trans0 hk⟩
theorem TmW.new {w wr w2 : World} {na nb : Bool} {A B X g : Nat} (h : TmW w wr na nb A B X) (hk : Kept [g] wr w2) (hg : w.heap.size + 1 + 1 + 1 < g) : TmW w w2 na nb A B X :=
  ⟨hk.blk h.a (by simp; omega), hk.blk h.b (by simp; omega), hk.blk h.r (by simp; omega), hk.blk h.o (by simp; omega), h.k.trans hk (fun _ h => h) (fun x h => by simp at h; right; omega)⟩
theorem TmW.seto {w wr w2 : World} {na nb : Bool} {A B X Y : Nat} (h : TmW w wr na nb A B X) (hb : Blk w2 (w.heap.size + 1 + 1 + 1) (wide false Y) 154) (hk : Kept [w.heap.size + 1 + 1 + 1] wr w2) : TmW w w2 na nb A B Y :=
  ⟨hk.blk h.a (by simp <;> omega), hk.blk h.b (by simp <;> omega), hk.blk h.r (by simp <;> omega), hb, h.k.trans hk (fun _ h => h) (fun x h => by simp at h; right; omega)⟩
set_option maxRecDepth 100000 in
set_option maxHeartbeats 6400000 in
theorem times_any (na nb : Bool) (A B : Nat) (hA : A < 65536 ^ 4) (hB : B < 65536 ^ 4) (w : World) :
    Calls Tryz.prog 92 #[.agg (wide na A).toArray, .agg (wide nb B).toArray] w fun e w' => e = .returned (.agg (wide (na != nb) (A * B)).toArray) ∧ Kept [] w w' := by
  have hz := zeroW
  have T0 := hx (TmW.start w na nb A B)
  have HA := hx hA
  have HB := hx hB
  clear hA hB
  go_enter Tryz.func92, Tryz.ntmps92
  go_wp2_with fail
  generalize (((w.alloc (.cells (wide na A).toArray 154)).alloc (.cells (wide nb B).toArray 154)).alloc (.cells (wideF false fun _ => 0).toArray 154)).alloc (.cells (wideF false fun _ => 0).toArray 154) = W0 at *
  go_loopw [6] (fun iv wr => ∃ i : Nat, i ≤ 4 ∧ iv = .int .i64 i ∧ TmW w wr na nb A B (A % 65536 ^ i * B)) (fun iv _ => 4 - (intOf iv).toNat)
  case atStart => exact ⟨0, by omega, rfl, by rw [Nat.pow_zero, Nat.mod_one, Nat.zero_mul]; exact T0.out⟩
  case round =>
    clear T0
    obtain ⟨i, hi4, rfl, ht⟩ := hrel
    have HT := hx ht
    clear ht
    by_cases hlt : i < 4
    · have hi : (i : Int) < 4 := by omega
      have hc := dig_lt A i
      have HC := hx hc
      have HX := hx (out_next A B i)
      obtain ⟨c, hcd⟩ : ∃ c, c = dig A i := ⟨_, rfl⟩
      rw [← hcd] at HC HX
      have HCD := hx hcd
      have HN := hx (Blk.new wr (wideF false fun _ => 0) 154)
      have HT1 := hx (HT.out.kept ((Kept.refl [] wr).alloc (.cells (wideF false fun _ => 0).toArray 154)))
      have HM := hx (show w.heap.size + 1 + 1 + 1 < wr.heap.size from HT.out.o.lt)
      clear hcd hc HT
      go_upto_region 7 with fail
      clear hz
      generalize wr.heap.size = m at *
      generalize wr.alloc (.cells (wideF false fun _ => 0).toArray 154) = W1 at *
      go_wp2_with fail
      go_loopw [8, 9] (fun cv kv wr => ∃ k : Nat, k ≤ 4 ∧ kv = .int .i64 k ∧ cv = .int .u64 ((carT c B k : Nat) : Int) ∧ Blk wr m (wideF false (rowF c B i k)) 154 ∧ TmW w wr na nb A B (A % 65536 ^ i * B)) (fun _ kv _ => 4 - (intOf kv).toNat)
      case atStart => exact ⟨0, by omega, rfl, by rw [carT_0]; rfl, by rw [rowF_0]; exact HN.out, HT1.out⟩
      case round =>
        clear HN HT1
        obtain ⟨k, hk4, rfl, rfl, hb, ht⟩ := hrel
        have HT := hx ht
        have HR := hx hb
        clear hb ht
        have hf := HR.out.free
        by_cases hkl : k < 4
        · have hk : (k : Int) < 4 := by omega
          have c2 : wr.cell? ⟨w.heap.size, 1 + i, none⟩ = some (.int .u64 ((c : Nat) : Int)) := by rw [HCD.out]; exact HT.out.a.cell (wideF_get na (dig A) (by omega))
          have c3 : wr.cell? ⟨w.heap.size + 1, 1 + k, none⟩ = some (.int .u64 ((dig B k : Nat) : Int)) := HT.out.b.cell (wideF_get nb (dig B) (by omega))
          have hy := dig_lt B k
          have hcr := carT_lt c B k HC.out
          have H1 := hx (carT_next c B k)
          have H2 := hx (dig_mul c B k)
          generalize carT c B k = z at *
          generalize dig B k = y at *
          obtain ⟨x, hxx⟩ : ∃ x, x = c * y := ⟨_, rfl⟩
          have hxl : x < 4294836226 := by
            rw [hxx]
            exact Nat.lt_of_le_of_lt (Nat.mul_le_mul (Nat.le_of_lt_succ HC.out) (Nat.le_of_lt_succ hy)) (by decide)
          rw [← hxx] at H1 H2
          have s1 : IntKind.u64.wrap ((c : Int) * (y : Int)) = (x : Int) := by rw [hxx, IntKind.wrap_u64, ← Int.natCast_mul, ← hxx]; omega
          have s2 : IntKind.u64.wrap ((x : Int) + (z : Int)) = ((x + z : Nat) : Int) := by rw [IntKind.wrap_u64]; omega
          clear hxx
          have cm := HR.out.cell (wideF_get false (rowF c B i k) (show i + k < 9 by omega))
          generalize rowF c B i k (i + k) = u at *
          have HS := hx (show Blk _ m (wideF false (rowF c B i (k + 1))) 154 by
            have h := (HR.out.drew).set (1 + (i + k)) (.int .u64 (((x + z) % 65536 : Nat) : Int))
            rw [rowF_set c B i k _ (by omega) H2.out.symm, show (((x + z) % 65536 : Nat) : Int) = ((x : Int) + (z : Int)) % 65536 by omega] at h
            exact h)
          have HTS := hx ((HT.out.kept (Kept.refl [] wr).drew).new ((Kept.refl [m] wr.drew).setCell (p := ⟨m, 1 + (i + k), none⟩) (.inl (by simp)) (.int .u64 (((x : Int) + (z : Int)) % 65536))) HM.out)
          go_upto_region 10 with fail
          go_region
          all_goals
            clear c2 c3 s1 s2
            go_wp2
            go_roundw
            case rel => exact ⟨k + 1, by omega, by go_num, by rw [H1.out]; simp, HS.out, HTS.out⟩
            case measure => simp [intOf] <;> omega
        · obtain rfl : k = 4 := by omega
          have hkn : ¬ ((4 : Int) < 4) := by omega
          have H4 := hx (dig_last c B HC.out HB.out)
          have H5 := hx (rowF_5 c B i HC.out HB.out)
          have cm := HR.out.cell (wideF_get false (rowF c B i 4) (show i + 4 < 9 by omega))
          generalize rowF c B i 4 (i + 4) = u at *
          have HS := hx (show Blk _ m (wide false (c * B * 65536 ^ i)) 154 by
            have h := HR.out.set (1 + (i + 4)) (.int .u64 ((carT c B 4 : Nat) : Int))
            rw [rowF_set c B i 4 _ (by omega) H4.out, H5.out] at h
            exact h)
          have HTS := hx (HT.out.new ((Kept.refl [m] wr).setCell (p := ⟨m, 1 + (i + 4), none⟩) (.inl (by simp)) (.int .u64 ((carT c B 4 : Nat) : Int))) HM.out)
          generalize carT c B 4 = z at *
          clear HR HT H4 H5
          go_upto_region 14 with fail
          clear cm hf
          generalize wr.setCell ⟨m, 1 + (i + 4), none⟩ (.int .u64 (z : Int)) = W2 at *
          go_wp2_with (first
            | refine load_w rfl (.tmp 5) rfl (w.heap.size + 1 + 1 + 1) rfl false _ HTS.out.o ?_
            | refine load_w rfl (.tmp 7) rfl m rfl false _ HS.out ?_)
          refine (plus_any false false (A % 65536 ^ i * B) (c * B * 65536 ^ i) _).mono ?_
          rintro e w3 ⟨rfl, hk3⟩
          rw [HX.out]
          have HT3 := hx (HTS.out.kept hk3)
          clear hk3 HTS HS
          go_wp2_with (first
            | (refine store_w rfl (.tmp 5) (.tmp 46) rfl (w.heap.size + 1 + 1 + 1) rfl false _ (dig _) _ rfl HT3.out.o ?_
               intro w4 hb4 hk4
               have HT4 := hx (HT3.out.seto hb4 hk4)
               clear hb4 hk4 HT3))
          go_roundw
          case rel => exact ⟨i + 1, by omega, by go_num, HT4.out⟩
          case measure => simp [intOf] <;> omega
    · obtain rfl : i = 4 := by omega
      rw [Nat.mod_eq_of_lt HA.out] at HT
      have c0 := HT.out.a.cell (wideF_0 na (dig A))
      have c1 := HT.out.b.cell (wideF_0 nb (dig B))
      have c3 := HT.out.o.cell (wideF_0 false (dig (A * B)))
      have hf := HT.out.o.free
      obtain ⟨r, hr⟩ : ∃ r, r = (na != nb) := ⟨_, rfl⟩
      have HS := hx (show Blk _ (w.heap.size + 1 + 1 + 1) (wide r (A * B)) 154 from HT.out.o.set 0 (.bool r))
      have HR := hx (HT.out.r.set_ne (a := ⟨w.heap.size + 1 + 1 + 1, 0, none⟩) (by simp) (.bool r))
      have HK := hx (HT.out.k.setCell (p := ⟨w.heap.size + 1 + 1 + 1, 0, none⟩) (.inr (by simp; omega)) (.bool r))
      have HRr := hx hr
      clear HT
      cases na <;> cases nb
      all_goals
        simp at hr
        subst hr
        clear HRr
        go_wp2_with (first
          | refine load_w rfl (.tmp 5) rfl (w.heap.size + 1 + 1 + 1) rfl _ _ HS.out ?_
          | (refine store_w rfl (.tmp 4) (.tmp 53) rfl (w.heap.size + 1 + 1) rfl _ _ _ _ rfl HR.out ?_
             intro w4 hb4 hk4))
        exact bodyPost_ret (ret_w rfl _ (w.heap.size + 1 + 1) _ _ rfl hb4) rfl ⟨rfl, HK.out.trans hk4 (fun _ h => h) (fun x h => by simp at h; right; omega)⟩
end Go.Proofs.YtgdofgckjkmhjaaGreat
namespace Go.Proofs.YtgdofgckjkmhjaaGreat
open Go Go.RowKit
/-- What Plus gives. -/
def plusB (na : Bool) (A : Nat) (nb : Bool) (B : Nat) : Bool := if na = nb then na else if A < B then nb else na
def plusN (na : Bool) (A : Nat) (nb : Bool) (B : Nat) : Nat := if na = nb then A + B else if A < B then B - A else A - B
theorem plus_val (na : Bool) (A : Nat) (nb : Bool) (B : Nat) : wval (plusB na A nb B) (plusN na A nb B) = wval na A + wval nb B := by
  unfold plusB plusN wval
  cases na <;> cases nb <;> simp <;> (repeat' split) <;> omega
theorem plusN_le (na : Bool) (A : Nat) (nb : Bool) (B : Nat) : plusN na A nb B ≤ A + B := by
  unfold plusN
  split
  · omega
  · split <;> omega
set_option maxRecDepth 100000 in
set_option maxHeartbeats 800000 in
theorem Plus_any (na nb : Bool) (A B : Nat) (hA : A < 65536 ^ 9) (hB : B < 65536 ^ 9) (w : World) :
    Calls Tryz.prog 94 #[.agg (wide na A).toArray, .agg (wide nb B).toArray] w fun e w' => e = .returned (.agg (wide (plusB na A nb B) (plusN na A nb B)).toArray) ∧ Kept [] w w' := by
  have hz := zeroW
  have hb0 := Blk.new w (wide na A) 154
  have hb1 := Blk.new (w.alloc (.cells (wide na A).toArray 154)) (wide nb B) 154
  have hb2 := Blk.new ((w.alloc (.cells (wide na A).toArray 154)).alloc (.cells (wide nb B).toArray 154)) (wideF false fun _ => 0) 154
  rw [World.size_alloc] at hb1
  rw [World.size_alloc, World.size_alloc] at hb2
  have hk0 : Kept [] w (((w.alloc (.cells (wide na A).toArray 154)).alloc (.cells (wide nb B).toArray 154)).alloc (.cells (wideF false fun _ => 0).toArray 154)) := (((Kept.refl _ _).alloc _).alloc _).alloc _
  have hb0 := (hb0.alloc (.cells (wide nb B).toArray 154)).alloc (.cells (wideF false fun _ => 0).toArray 154)
  have hb1 := hb1.alloc (.cells (wideF false fun _ => 0).toArray 154)
  have c0 := hb0.cell (wideF_0 na (dig A))
  have c1 := hb1.cell (wideF_0 nb (dig B))
  have hA' := Lib.hid hA
  have hB' := Lib.hid hB
  clear hA hB
  by_cases hs : na = nb
  · subst hs
    have hpb := Lib.hid (show plusB na A na B = na by simp [plusB])
    have hpn := Lib.hid (show plusN na A na B = A + B by simp [plusN])
    go_enter Tryz.func94, Tryz.ntmps94
    go_wp2_with (first | (refine load_w rfl (.tmp 2) rfl w.heap.size rfl na (dig A) hb0 ?_) | (refine load_w rfl (.tmp 3) rfl (w.heap.size + 1) rfl na (dig B) hb1 ?_))
    refine (plus_any na na A B _).mono ?_
    rintro e w2 ⟨rfl, hk2⟩
    have hk02 := hk0.trans0 hk2
    have hbz := hk2.blk hb2 (by simp)
    have hnew := Blk.new w2 (wideF false fun _ => 0) 154
    go_wp2_with (refine store_w rfl (.tmp 5) (.tmp 15) rfl w2.heap.size rfl _ _ _ _ rfl hnew ?_)
    intro w3 hb3 hk3
    have hk23 : Kept [] w2 w3 := ((Kept.refl [] w2).alloc _).trans hk3 (fun _ h => h) (fun x h => by simp at h; right; omega)
    have hk03 := hk02.trans0 hk23
    have cs := (hk23.blk (hk2.blk hb0 (by simp)) (by simp)).cell (wideF_0 na _)
    have cy := hb3.cell (wideF_0 na _)
    have fy := hb3.free 0
    have hlt2 := hk2.size
    simp at hlt2
    have hb4 : Blk (w3.setCell ⟨w2.heap.size, 0, none⟩ (.bool na)) w2.heap.size (wideF na (dig (A + B))) 154 := hb3.set 0 _
    have hb5 : Blk (w3.setCell ⟨w2.heap.size, 0, none⟩ (.bool na)) (w.heap.size + 1 + 1) (wideF false fun _ => 0) 154 := (hk23.blk hbz (by simp)).set_ne (by simp; omega) _
    go_wp2_with (first | (refine load_w rfl (.tmp 5) rfl w2.heap.size rfl na (dig (A + B)) hb4 ?_) | (refine store_w rfl (.tmp 4) (.tmp 19) rfl (w.heap.size + 1 + 1) rfl _ _ _ _ rfl hb5 ?_))
    intro w4 hb6 hk4
    go_wp2
    refine bodyPost_ret (ret_w rfl _ (w.heap.size + 1 + 1) _ _ rfl hb6) rfl ⟨by rw [hpb.out, hpn.out]; rfl, ?_⟩
    exact (hk03.setCell (p := ⟨w2.heap.size, 0, none⟩) (.inr (by simp; omega)) _).trans hk4 (fun _ h => h) (fun x h => by simp at h; right; omega)
  · have hsf : (na == nb) = false := by simpa using hs
    by_cases hAB : A < B
    · have hpb := Lib.hid (show plusB na A nb B = nb by simp [plusB, hs, hAB])
      have hpn := Lib.hid (show plusN na A nb B = B - A by simp [plusN, hs, hAB])
      have hd := Lib.hid (decide_eq_true hAB)
      have hle := Nat.le_of_lt hAB
      have hle' := Lib.hid hle
      clear hs hAB hle
      go_enter Tryz.func94, Tryz.ntmps94
      go_wp2_with (first | (refine load_w rfl (.tmp 2) rfl w.heap.size rfl na (dig A) hb0 ?_) | (refine load_w rfl (.tmp 3) rfl (w.heap.size + 1) rfl nb (dig B) hb1 ?_))
      refine (less_any na nb A B hA'.out hB'.out _).mono ?_
      rintro e w1 ⟨rfl, hk1⟩
      rw [hd.out]
      go_wp2_with (first | (refine load_w rfl (.tmp 3) rfl (w.heap.size + 1) rfl nb (dig B) (hk1.blk hb1 (by simp)) ?_) | (refine load_w rfl (.tmp 2) rfl w.heap.size rfl na (dig A) (hk1.blk hb0 (by simp)) ?_))
      refine (minus_any nb na B A hle'.out _).mono ?_
      rintro e w2 ⟨rfl, hk12⟩
      have hk2 := hk1.trans0 hk12
      have hk02 := hk0.trans0 hk2
      have hbz := hk2.blk hb2 (by simp)
      have hnew := Blk.new w2 (wideF false fun _ => 0) 154
      go_wp2_with (refine store_w rfl (.tmp 6) (.tmp 25) rfl w2.heap.size rfl _ _ _ _ rfl hnew ?_)
      intro w3 hb3 hk3
      have hk23 : Kept [] w2 w3 := ((Kept.refl [] w2).alloc _).trans hk3 (fun _ h => h) (fun x h => by simp at h; right; omega)
      have hk03 := hk02.trans0 hk23
      have cs := (hk23.blk (hk2.blk hb1 (by simp)) (by simp)).cell (wideF_0 nb _)
      have cy := hb3.cell (wideF_0 nb _)
      have fy := hb3.free 0
      have hlt2 := hk2.size
      simp at hlt2
      have hb4 : Blk (w3.setCell ⟨w2.heap.size, 0, none⟩ (.bool nb)) w2.heap.size (wideF nb (dig (B - A))) 154 := hb3.set 0 _
      have hb5 : Blk (w3.setCell ⟨w2.heap.size, 0, none⟩ (.bool nb)) (w.heap.size + 1 + 1) (wideF false fun _ => 0) 154 := (hk23.blk hbz (by simp)).set_ne (by simp; omega) _
      go_wp2_with (first | (refine load_w rfl (.tmp 6) rfl w2.heap.size rfl nb (dig (B - A)) hb4 ?_) | (refine store_w rfl (.tmp 4) (.tmp 29) rfl (w.heap.size + 1 + 1) rfl _ _ _ _ rfl hb5 ?_))
      intro w4 hb6 hk4
      go_wp2
      refine bodyPost_ret (ret_w rfl _ (w.heap.size + 1 + 1) _ _ rfl hb6) rfl ⟨by rw [hpb.out, hpn.out]; rfl, ?_⟩
      exact (hk03.setCell (p := ⟨w2.heap.size, 0, none⟩) (.inr (by simp; omega)) _).trans hk4 (fun _ h => h) (fun x h => by simp at h; right; omega)
    · have hpb := Lib.hid (show plusB na A nb B = na by simp [plusB, hs, hAB])
      have hpn := Lib.hid (show plusN na A nb B = A - B by simp [plusN, hs, hAB])
      have hd := Lib.hid (decide_eq_false hAB)
      have hle := Nat.le_of_not_lt hAB
      have hle' := Lib.hid hle
      clear hs hAB hle
      go_enter Tryz.func94, Tryz.ntmps94
      go_wp2_with (first | (refine load_w rfl (.tmp 2) rfl w.heap.size rfl na (dig A) hb0 ?_) | (refine load_w rfl (.tmp 3) rfl (w.heap.size + 1) rfl nb (dig B) hb1 ?_))
      refine (less_any na nb A B hA'.out hB'.out _).mono ?_
      rintro e w1 ⟨rfl, hk1⟩
      rw [hd.out]
      go_wp2_with (first | (refine load_w rfl (.tmp 2) rfl w.heap.size rfl na (dig A) (hk1.blk hb0 (by simp)) ?_) | (refine load_w rfl (.tmp 3) rfl (w.heap.size + 1) rfl nb (dig B) (hk1.blk hb1 (by simp)) ?_))
      refine (minus_any na nb A B hle'.out _).mono ?_
      rintro e w2 ⟨rfl, hk12⟩
      have hk2 := hk1.trans0 hk12
      have hk02 := hk0.trans0 hk2
      have hbz := hk2.blk hb2 (by simp)
      have hnew := Blk.new w2 (wideF false fun _ => 0) 154
      go_wp2_with (refine store_w rfl (.tmp 7) (.tmp 32) rfl w2.heap.size rfl _ _ _ _ rfl hnew ?_)
      intro w3 hb3 hk3
      have hk23 : Kept [] w2 w3 := ((Kept.refl [] w2).alloc _).trans hk3 (fun _ h => h) (fun x h => by simp at h; right; omega)
      have hk03 := hk02.trans0 hk23
      have cs := (hk23.blk (hk2.blk hb0 (by simp)) (by simp)).cell (wideF_0 na _)
      have cy := hb3.cell (wideF_0 na _)
      have fy := hb3.free 0
      have hlt2 := hk2.size
      simp at hlt2
      have hb4 : Blk (w3.setCell ⟨w2.heap.size, 0, none⟩ (.bool na)) w2.heap.size (wideF na (dig (A - B))) 154 := hb3.set 0 _
      have hb5 : Blk (w3.setCell ⟨w2.heap.size, 0, none⟩ (.bool na)) (w.heap.size + 1 + 1) (wideF false fun _ => 0) 154 := (hk23.blk hbz (by simp)).set_ne (by simp; omega) _
      go_wp2_with (first | (refine load_w rfl (.tmp 7) rfl w2.heap.size rfl na (dig (A - B)) hb4 ?_) | (refine store_w rfl (.tmp 4) (.tmp 36) rfl (w.heap.size + 1 + 1) rfl _ _ _ _ rfl hb5 ?_))
      intro w4 hb6 hk4
      go_wp2
      refine bodyPost_ret (ret_w rfl _ (w.heap.size + 1 + 1) _ _ rfl hb6) rfl ⟨by rw [hpb.out, hpn.out]; rfl, ?_⟩
      exact (hk03.setCell (p := ⟨w2.heap.size, 0, none⟩) (.inr (by simp; omega)) _).trans hk4 (fun _ h => h) (fun x h => by simp at h; right; omega)
end Go.Proofs.YtgdofgckjkmhjaaGreat
namespace Go.Proofs.YtgdofgckjkmhjaaGreat
open Go Go.RowKit
/-- A number, held at the limits. -/
def hold (x : Int) : Int := if x < -9223372036854775808 then -9223372036854775808 else if 9223372036854775807 < x then 9223372036854775807 else x
/-- The four lowest pieces. -/
def low4 (n : Nat) : Nat := n % 18446744073709551616
theorem low4_lt (n : Nat) : low4 n < 18446744073709551616 := Nat.mod_lt _ (by omega)
theorem low4_dig (n i : Nat) (h : i < 4) : low4 n / 65536 ^ i % 65536 = dig n i := by
  have : i = 0 ∨ i = 1 ∨ i = 2 ∨ i = 3 := by omega
  unfold low4 dig
  rcases this with rfl | rfl | rfl | rfl <;> simp <;> omega
theorem low4_next (n i : Nat) (h : i < 4) : low4 n / 65536 ^ i = low4 n / 65536 ^ (i + 1) * 65536 + dig n i := by
  have h1 := div_next (low4 n) i
  have h2 := low4_dig n i h
  omega
theorem small_of (n : Nat) (h9 : n < 65536 ^ 9) (h4 : dig n 4 = 0) (h5 : dig n 5 = 0) (h6 : dig n 6 = 0) (h7 : dig n 7 = 0) (h8 : dig n 8 = 0) : n < 18446744073709551616 := by
  have e8 := div_next n 8
  have e7 := div_next n 7
  have e6 := div_next n 6
  have e5 := div_next n 5
  have e4 := div_next n 4
  have e9 : n / 65536 ^ (8 + 1) = 0 := Nat.div_eq_of_lt h9
  unfold dig at *
  have h : n / 65536 ^ 4 = 0 := by omega
  rcases Nat.lt_or_ge n (65536 ^ 4) with g | g
  · exact g
  · have := Nat.div_le_div_right (c := 65536 ^ 4) g
    rw [h, Nat.div_self (pw_pos 4)] at this
    omega
theorem big_of (n i : Nat) (hi : 4 ≤ i) (h : 0 < dig n i) : 18446744073709551616 ≤ n := by
  rcases Nat.lt_or_ge n 18446744073709551616 with g | g
  · have := dig_zero' g hi
    omega
  · exact g
set_option maxRecDepth 100000 in
set_option maxHeartbeats 800000 in
theorem held_small (neg : Bool) (N : Nat) (hN : N < 18446744073709551616) (w : World) :
    Calls Tryz.prog 91 #[.agg (wide neg N).toArray] w fun e w' => e = .returned (.int .i64 (hold (wval neg N))) ∧ Kept [] w w' := by
  have hb0 := Blk.new w (wide neg N) 154
  have g4 : dig N 4 = 0 := dig_zero' hN (by omega)
  have g5 : dig N 5 = 0 := dig_zero' hN (by omega)
  have g6 : dig N 6 = 0 := dig_zero' hN (by omega)
  have g7 : dig N 7 = 0 := dig_zero' hN (by omega)
  have g8 : dig N 8 = 0 := dig_zero' hN (by omega)
  have c4 : (w.alloc (.cells (wide neg N).toArray 154)).cell? ⟨w.heap.size, 1 + 4, none⟩ = some (.int .u64 0) := by have h := hb0.cell (wideF_get neg (dig N) (show 4 < 9 by omega)); rw [g4] at h; exact h
  have c5 : (w.alloc (.cells (wide neg N).toArray 154)).cell? ⟨w.heap.size, 1 + 5, none⟩ = some (.int .u64 0) := by have h := hb0.cell (wideF_get neg (dig N) (show 5 < 9 by omega)); rw [g5] at h; exact h
  have c6 : (w.alloc (.cells (wide neg N).toArray 154)).cell? ⟨w.heap.size, 1 + 6, none⟩ = some (.int .u64 0) := by have h := hb0.cell (wideF_get neg (dig N) (show 6 < 9 by omega)); rw [g6] at h; exact h
  have c7 : (w.alloc (.cells (wide neg N).toArray 154)).cell? ⟨w.heap.size, 1 + 7, none⟩ = some (.int .u64 0) := by have h := hb0.cell (wideF_get neg (dig N) (show 7 < 9 by omega)); rw [g7] at h; exact h
  have c8 : (w.alloc (.cells (wide neg N).toArray 154)).cell? ⟨w.heap.size, 1 + 8, none⟩ = some (.int .u64 0) := by have h := hb0.cell (wideF_get neg (dig N) (show 8 < 9 by omega)); rw [g8] at h; exact h
  have hN' := Lib.hid hN
  clear hN g4 g5 g6 g7 g8
  go_enter Tryz.func91, Tryz.ntmps91
  go_wp2
  go_loop [3, 5] (fun u i => ∃ m : Nat, m ≤ 4 ∧ i = .int .i64 ((m : Int) - 1) ∧ u = .int .u64 ((low4 N / 65536 ^ m : Nat) : Int)) (fun _ i => (intOf i + 1).toNat)
  case atStart => exact ⟨4, by omega, rfl, by rw [Nat.div_eq_of_lt (low4_lt N)]; rfl⟩
  case round =>
    obtain ⟨m, hm, rfl, rfl⟩ := hrel
    clear c4 c5 c6 c7 c8
    by_cases hm0 : m = 0
    · subst hm0
      rw [Nat.pow_zero, Nat.div_one]
      have hl := low4_lt N
      have c0 := hb0.cell (wideF_0 neg (dig N))
      have hln : low4 N = N := Nat.mod_eq_of_lt hN'.out
      rw [hln]
      clear hl hln
      have hNN := hN'.out
      by_cases hsm : N < 9223372036854775808
      · have w1 : IntKind.i64.wrap (N : Int) = (N : Int) := by rw [IntKind.wrap_i64]; omega
        have w2 : IntKind.i64.wrap (-(N : Int)) = -(N : Int) := by rw [IntKind.wrap_i64]; omega
        have d1 : decide ((9223372036854775808 : Int) ≤ (N : Int)) = false := by simp; omega
        have d2 : decide ((9223372036854775807 : Int) < (N : Int)) = false := by simp; omega
        have hh := Lib.hid (show hold (wval neg N) = if neg then -(N : Int) else N by unfold hold wval; cases neg <;> simp <;> omega)
        clear hsm
        cases neg
        · go_wp2
          go_ret
          exact ⟨by rw [hh.out]; rfl, (Kept.refl _ _).alloc _⟩
        · go_wp2
          go_ret
          exact ⟨by rw [hh.out]; rfl, (Kept.refl _ _).alloc _⟩
      · have d1 : decide ((9223372036854775808 : Int) ≤ (N : Int)) = true := by simp; omega
        have d2 : decide ((9223372036854775807 : Int) < (N : Int)) = true := by simp; omega
        have hh := Lib.hid (show hold (wval neg N) = if neg then -9223372036854775808 else 9223372036854775807 by unfold hold wval; cases neg <;> simp <;> omega)
        clear hsm
        cases neg
        · go_wp2
          go_ret
          exact ⟨by rw [hh.out]; rfl, (Kept.refl _ _).alloc _⟩
        · go_wp2
          go_ret
          exact ⟨by rw [hh.out]; rfl, (Kept.refl _ _).alloc _⟩
    · obtain ⟨k, rfl⟩ : ∃ k, m = k + 1 := ⟨m - 1, by omega⟩
      have e1 : ((k + 1 : Nat) : Int) - 1 = (k : Int) := by omega
      rw [e1]
      clear e1
      have hx := Nat.lt_of_le_of_lt (Nat.div_le_self (low4 N) (65536 ^ k)) (low4_lt N)
      have hn := Lib.hid (low4_next N k (by omega))
      have hn2 := hn.out
      have hy := dig_lt N k
      have cc : (w.alloc (.cells (wide neg N).toArray 154)).cell? ⟨w.heap.size, 1 + k, none⟩ = some (.int .u64 (dig N k : Nat)) := hb0.cell (wideF_get neg (dig N) (by omega))
      generalize low4 N / 65536 ^ (k + 1) = u at *
      generalize dig N k = d at *
      have hu : u < 281474976710656 := by omega
      clear hn2 hx
      go_wp2
      go_round
      case rel => exact ⟨k, by omega, rfl, by rw [hn.out]; simp⟩
      case measure => simp [intOf] <;> omega
set_option maxRecDepth 100000 in
set_option maxHeartbeats 800000 in
theorem held_big4 (neg : Bool) (N : Nat) (gp : 0 < dig N 4) (w : World) :
    Calls Tryz.prog 91 #[.agg (wide neg N).toArray] w fun e w' => e = .returned (.int .i64 (hold (wval neg N))) ∧ Kept [] w w' := by
  have hb0 := Blk.new w (wide neg N) 154
  have hN := big_of N 4 (by omega) gp
  have c4 : (w.alloc (.cells (wide neg N).toArray 154)).cell? ⟨w.heap.size, 1 + 4, none⟩ = some (.int .u64 (dig N 4 : Nat)) := hb0.cell (wideF_get neg (dig N) (show 4 < 9 by omega))
  have t4 : (0 : Int) < (dig N 4 : Nat) := by omega
  have hN' := Lib.hid hN
  clear hN 
  go_enter Tryz.func91, Tryz.ntmps91
  go_wp2
  go_loop [3, 5] (fun u i => ∃ m : Nat, m ≤ 4 ∧ i = .int .i64 ((m : Int) - 1) ∧ u = .int .u64 ((low4 N / 65536 ^ m : Nat) : Int)) (fun _ i => (intOf i + 1).toNat)
  case atStart => exact ⟨4, by omega, rfl, by rw [Nat.div_eq_of_lt (low4_lt N)]; rfl⟩
  case round =>
    obtain ⟨m, hm, rfl, rfl⟩ := hrel
    clear c4 t4 gp
    by_cases hm0 : m = 0
    · subst hm0
      rw [Nat.pow_zero, Nat.div_one]
      have hl := low4_lt N
      have c0 := hb0.cell (wideF_0 neg (dig N))
      have hNN := hN'.out
      have hh := Lib.hid (show hold (wval neg N) = if neg then -9223372036854775808 else 9223372036854775807 by unfold hold wval; cases neg <;> simp <;> omega)
      clear hNN
      cases neg
      · go_wp2
        go_ret
        exact ⟨by rw [hh.out]; rfl, (Kept.refl _ _).alloc _⟩
      · go_wp2
        go_ret
        exact ⟨by rw [hh.out]; rfl, (Kept.refl _ _).alloc _⟩
    · obtain ⟨k, rfl⟩ : ∃ k, m = k + 1 := ⟨m - 1, by omega⟩
      have e1 : ((k + 1 : Nat) : Int) - 1 = (k : Int) := by omega
      rw [e1]
      clear e1
      have hx := Nat.lt_of_le_of_lt (Nat.div_le_self (low4 N) (65536 ^ k)) (low4_lt N)
      have hn := Lib.hid (low4_next N k (by omega))
      have hn2 := hn.out
      have hy := dig_lt N k
      have cc : (w.alloc (.cells (wide neg N).toArray 154)).cell? ⟨w.heap.size, 1 + k, none⟩ = some (.int .u64 (dig N k : Nat)) := hb0.cell (wideF_get neg (dig N) (by omega))
      generalize low4 N / 65536 ^ (k + 1) = u at *
      generalize dig N k = d at *
      have hu : u < 281474976710656 := by omega
      clear hn2 hx
      go_wp2
      go_round
      case rel => exact ⟨k, by omega, rfl, by rw [hn.out]; simp⟩
      case measure => simp [intOf] <;> omega
set_option maxRecDepth 100000 in
set_option maxHeartbeats 800000 in
theorem held_big5 (neg : Bool) (N : Nat) (g4 : dig N 4 = 0) (gp : 0 < dig N 5) (w : World) :
    Calls Tryz.prog 91 #[.agg (wide neg N).toArray] w fun e w' => e = .returned (.int .i64 (hold (wval neg N))) ∧ Kept [] w w' := by
  have hb0 := Blk.new w (wide neg N) 154
  have hN := big_of N 5 (by omega) gp
  have c4 : (w.alloc (.cells (wide neg N).toArray 154)).cell? ⟨w.heap.size, 1 + 4, none⟩ = some (.int .u64 0) := by have h := hb0.cell (wideF_get neg (dig N) (show 4 < 9 by omega)); rw [g4] at h; exact h
  have c5 : (w.alloc (.cells (wide neg N).toArray 154)).cell? ⟨w.heap.size, 1 + 5, none⟩ = some (.int .u64 (dig N 5 : Nat)) := hb0.cell (wideF_get neg (dig N) (show 5 < 9 by omega))
  have t5 : (0 : Int) < (dig N 5 : Nat) := by omega
  have hN' := Lib.hid hN
  clear hN g4
  go_enter Tryz.func91, Tryz.ntmps91
  go_wp2
  go_loop [3, 5] (fun u i => ∃ m : Nat, m ≤ 4 ∧ i = .int .i64 ((m : Int) - 1) ∧ u = .int .u64 ((low4 N / 65536 ^ m : Nat) : Int)) (fun _ i => (intOf i + 1).toNat)
  case atStart => exact ⟨4, by omega, rfl, by rw [Nat.div_eq_of_lt (low4_lt N)]; rfl⟩
  case round =>
    obtain ⟨m, hm, rfl, rfl⟩ := hrel
    clear c4 c5 t5 gp
    by_cases hm0 : m = 0
    · subst hm0
      rw [Nat.pow_zero, Nat.div_one]
      have hl := low4_lt N
      have c0 := hb0.cell (wideF_0 neg (dig N))
      have hNN := hN'.out
      have hh := Lib.hid (show hold (wval neg N) = if neg then -9223372036854775808 else 9223372036854775807 by unfold hold wval; cases neg <;> simp <;> omega)
      clear hNN
      cases neg
      · go_wp2
        go_ret
        exact ⟨by rw [hh.out]; rfl, (Kept.refl _ _).alloc _⟩
      · go_wp2
        go_ret
        exact ⟨by rw [hh.out]; rfl, (Kept.refl _ _).alloc _⟩
    · obtain ⟨k, rfl⟩ : ∃ k, m = k + 1 := ⟨m - 1, by omega⟩
      have e1 : ((k + 1 : Nat) : Int) - 1 = (k : Int) := by omega
      rw [e1]
      clear e1
      have hx := Nat.lt_of_le_of_lt (Nat.div_le_self (low4 N) (65536 ^ k)) (low4_lt N)
      have hn := Lib.hid (low4_next N k (by omega))
      have hn2 := hn.out
      have hy := dig_lt N k
      have cc : (w.alloc (.cells (wide neg N).toArray 154)).cell? ⟨w.heap.size, 1 + k, none⟩ = some (.int .u64 (dig N k : Nat)) := hb0.cell (wideF_get neg (dig N) (by omega))
      generalize low4 N / 65536 ^ (k + 1) = u at *
      generalize dig N k = d at *
      have hu : u < 281474976710656 := by omega
      clear hn2 hx
      go_wp2
      go_round
      case rel => exact ⟨k, by omega, rfl, by rw [hn.out]; simp⟩
      case measure => simp [intOf] <;> omega
set_option maxRecDepth 100000 in
set_option maxHeartbeats 800000 in
theorem held_big6 (neg : Bool) (N : Nat) (g4 : dig N 4 = 0) (g5 : dig N 5 = 0) (gp : 0 < dig N 6) (w : World) :
    Calls Tryz.prog 91 #[.agg (wide neg N).toArray] w fun e w' => e = .returned (.int .i64 (hold (wval neg N))) ∧ Kept [] w w' := by
  have hb0 := Blk.new w (wide neg N) 154
  have hN := big_of N 6 (by omega) gp
  have c4 : (w.alloc (.cells (wide neg N).toArray 154)).cell? ⟨w.heap.size, 1 + 4, none⟩ = some (.int .u64 0) := by have h := hb0.cell (wideF_get neg (dig N) (show 4 < 9 by omega)); rw [g4] at h; exact h
  have c5 : (w.alloc (.cells (wide neg N).toArray 154)).cell? ⟨w.heap.size, 1 + 5, none⟩ = some (.int .u64 0) := by have h := hb0.cell (wideF_get neg (dig N) (show 5 < 9 by omega)); rw [g5] at h; exact h
  have c6 : (w.alloc (.cells (wide neg N).toArray 154)).cell? ⟨w.heap.size, 1 + 6, none⟩ = some (.int .u64 (dig N 6 : Nat)) := hb0.cell (wideF_get neg (dig N) (show 6 < 9 by omega))
  have t6 : (0 : Int) < (dig N 6 : Nat) := by omega
  have hN' := Lib.hid hN
  clear hN g4 g5
  go_enter Tryz.func91, Tryz.ntmps91
  go_wp2
  go_loop [3, 5] (fun u i => ∃ m : Nat, m ≤ 4 ∧ i = .int .i64 ((m : Int) - 1) ∧ u = .int .u64 ((low4 N / 65536 ^ m : Nat) : Int)) (fun _ i => (intOf i + 1).toNat)
  case atStart => exact ⟨4, by omega, rfl, by rw [Nat.div_eq_of_lt (low4_lt N)]; rfl⟩
  case round =>
    obtain ⟨m, hm, rfl, rfl⟩ := hrel
    clear c4 c5 c6 t6 gp
    by_cases hm0 : m = 0
    · subst hm0
      rw [Nat.pow_zero, Nat.div_one]
      have hl := low4_lt N
      have c0 := hb0.cell (wideF_0 neg (dig N))
      have hNN := hN'.out
      have hh := Lib.hid (show hold (wval neg N) = if neg then -9223372036854775808 else 9223372036854775807 by unfold hold wval; cases neg <;> simp <;> omega)
      clear hNN
      cases neg
      · go_wp2
        go_ret
        exact ⟨by rw [hh.out]; rfl, (Kept.refl _ _).alloc _⟩
      · go_wp2
        go_ret
        exact ⟨by rw [hh.out]; rfl, (Kept.refl _ _).alloc _⟩
    · obtain ⟨k, rfl⟩ : ∃ k, m = k + 1 := ⟨m - 1, by omega⟩
      have e1 : ((k + 1 : Nat) : Int) - 1 = (k : Int) := by omega
      rw [e1]
      clear e1
      have hx := Nat.lt_of_le_of_lt (Nat.div_le_self (low4 N) (65536 ^ k)) (low4_lt N)
      have hn := Lib.hid (low4_next N k (by omega))
      have hn2 := hn.out
      have hy := dig_lt N k
      have cc : (w.alloc (.cells (wide neg N).toArray 154)).cell? ⟨w.heap.size, 1 + k, none⟩ = some (.int .u64 (dig N k : Nat)) := hb0.cell (wideF_get neg (dig N) (by omega))
      generalize low4 N / 65536 ^ (k + 1) = u at *
      generalize dig N k = d at *
      have hu : u < 281474976710656 := by omega
      clear hn2 hx
      go_wp2
      go_round
      case rel => exact ⟨k, by omega, rfl, by rw [hn.out]; simp⟩
      case measure => simp [intOf] <;> omega
set_option maxRecDepth 100000 in
set_option maxHeartbeats 800000 in
theorem held_big7 (neg : Bool) (N : Nat) (g4 : dig N 4 = 0) (g5 : dig N 5 = 0) (g6 : dig N 6 = 0) (gp : 0 < dig N 7) (w : World) :
    Calls Tryz.prog 91 #[.agg (wide neg N).toArray] w fun e w' => e = .returned (.int .i64 (hold (wval neg N))) ∧ Kept [] w w' := by
  have hb0 := Blk.new w (wide neg N) 154
  have hN := big_of N 7 (by omega) gp
  have c4 : (w.alloc (.cells (wide neg N).toArray 154)).cell? ⟨w.heap.size, 1 + 4, none⟩ = some (.int .u64 0) := by have h := hb0.cell (wideF_get neg (dig N) (show 4 < 9 by omega)); rw [g4] at h; exact h
  have c5 : (w.alloc (.cells (wide neg N).toArray 154)).cell? ⟨w.heap.size, 1 + 5, none⟩ = some (.int .u64 0) := by have h := hb0.cell (wideF_get neg (dig N) (show 5 < 9 by omega)); rw [g5] at h; exact h
  have c6 : (w.alloc (.cells (wide neg N).toArray 154)).cell? ⟨w.heap.size, 1 + 6, none⟩ = some (.int .u64 0) := by have h := hb0.cell (wideF_get neg (dig N) (show 6 < 9 by omega)); rw [g6] at h; exact h
  have c7 : (w.alloc (.cells (wide neg N).toArray 154)).cell? ⟨w.heap.size, 1 + 7, none⟩ = some (.int .u64 (dig N 7 : Nat)) := hb0.cell (wideF_get neg (dig N) (show 7 < 9 by omega))
  have t7 : (0 : Int) < (dig N 7 : Nat) := by omega
  have hN' := Lib.hid hN
  clear hN g4 g5 g6
  go_enter Tryz.func91, Tryz.ntmps91
  go_wp2
  go_loop [3, 5] (fun u i => ∃ m : Nat, m ≤ 4 ∧ i = .int .i64 ((m : Int) - 1) ∧ u = .int .u64 ((low4 N / 65536 ^ m : Nat) : Int)) (fun _ i => (intOf i + 1).toNat)
  case atStart => exact ⟨4, by omega, rfl, by rw [Nat.div_eq_of_lt (low4_lt N)]; rfl⟩
  case round =>
    obtain ⟨m, hm, rfl, rfl⟩ := hrel
    clear c4 c5 c6 c7 t7 gp
    by_cases hm0 : m = 0
    · subst hm0
      rw [Nat.pow_zero, Nat.div_one]
      have hl := low4_lt N
      have c0 := hb0.cell (wideF_0 neg (dig N))
      have hNN := hN'.out
      have hh := Lib.hid (show hold (wval neg N) = if neg then -9223372036854775808 else 9223372036854775807 by unfold hold wval; cases neg <;> simp <;> omega)
      clear hNN
      cases neg
      · go_wp2
        go_ret
        exact ⟨by rw [hh.out]; rfl, (Kept.refl _ _).alloc _⟩
      · go_wp2
        go_ret
        exact ⟨by rw [hh.out]; rfl, (Kept.refl _ _).alloc _⟩
    · obtain ⟨k, rfl⟩ : ∃ k, m = k + 1 := ⟨m - 1, by omega⟩
      have e1 : ((k + 1 : Nat) : Int) - 1 = (k : Int) := by omega
      rw [e1]
      clear e1
      have hx := Nat.lt_of_le_of_lt (Nat.div_le_self (low4 N) (65536 ^ k)) (low4_lt N)
      have hn := Lib.hid (low4_next N k (by omega))
      have hn2 := hn.out
      have hy := dig_lt N k
      have cc : (w.alloc (.cells (wide neg N).toArray 154)).cell? ⟨w.heap.size, 1 + k, none⟩ = some (.int .u64 (dig N k : Nat)) := hb0.cell (wideF_get neg (dig N) (by omega))
      generalize low4 N / 65536 ^ (k + 1) = u at *
      generalize dig N k = d at *
      have hu : u < 281474976710656 := by omega
      clear hn2 hx
      go_wp2
      go_round
      case rel => exact ⟨k, by omega, rfl, by rw [hn.out]; simp⟩
      case measure => simp [intOf] <;> omega
set_option maxRecDepth 100000 in
set_option maxHeartbeats 800000 in
theorem held_big8 (neg : Bool) (N : Nat) (g4 : dig N 4 = 0) (g5 : dig N 5 = 0) (g6 : dig N 6 = 0) (g7 : dig N 7 = 0) (gp : 0 < dig N 8) (w : World) :
    Calls Tryz.prog 91 #[.agg (wide neg N).toArray] w fun e w' => e = .returned (.int .i64 (hold (wval neg N))) ∧ Kept [] w w' := by
  have hb0 := Blk.new w (wide neg N) 154
  have hN := big_of N 8 (by omega) gp
  have c4 : (w.alloc (.cells (wide neg N).toArray 154)).cell? ⟨w.heap.size, 1 + 4, none⟩ = some (.int .u64 0) := by have h := hb0.cell (wideF_get neg (dig N) (show 4 < 9 by omega)); rw [g4] at h; exact h
  have c5 : (w.alloc (.cells (wide neg N).toArray 154)).cell? ⟨w.heap.size, 1 + 5, none⟩ = some (.int .u64 0) := by have h := hb0.cell (wideF_get neg (dig N) (show 5 < 9 by omega)); rw [g5] at h; exact h
  have c6 : (w.alloc (.cells (wide neg N).toArray 154)).cell? ⟨w.heap.size, 1 + 6, none⟩ = some (.int .u64 0) := by have h := hb0.cell (wideF_get neg (dig N) (show 6 < 9 by omega)); rw [g6] at h; exact h
  have c7 : (w.alloc (.cells (wide neg N).toArray 154)).cell? ⟨w.heap.size, 1 + 7, none⟩ = some (.int .u64 0) := by have h := hb0.cell (wideF_get neg (dig N) (show 7 < 9 by omega)); rw [g7] at h; exact h
  have c8 : (w.alloc (.cells (wide neg N).toArray 154)).cell? ⟨w.heap.size, 1 + 8, none⟩ = some (.int .u64 (dig N 8 : Nat)) := hb0.cell (wideF_get neg (dig N) (show 8 < 9 by omega))
  have t8 : (0 : Int) < (dig N 8 : Nat) := by omega
  have hN' := Lib.hid hN
  clear hN g4 g5 g6 g7
  go_enter Tryz.func91, Tryz.ntmps91
  go_wp2
  go_loop [3, 5] (fun u i => ∃ m : Nat, m ≤ 4 ∧ i = .int .i64 ((m : Int) - 1) ∧ u = .int .u64 ((low4 N / 65536 ^ m : Nat) : Int)) (fun _ i => (intOf i + 1).toNat)
  case atStart => exact ⟨4, by omega, rfl, by rw [Nat.div_eq_of_lt (low4_lt N)]; rfl⟩
  case round =>
    obtain ⟨m, hm, rfl, rfl⟩ := hrel
    clear c4 c5 c6 c7 c8 t8 gp
    by_cases hm0 : m = 0
    · subst hm0
      rw [Nat.pow_zero, Nat.div_one]
      have hl := low4_lt N
      have c0 := hb0.cell (wideF_0 neg (dig N))
      have hNN := hN'.out
      have hh := Lib.hid (show hold (wval neg N) = if neg then -9223372036854775808 else 9223372036854775807 by unfold hold wval; cases neg <;> simp <;> omega)
      clear hNN
      cases neg
      · go_wp2
        go_ret
        exact ⟨by rw [hh.out]; rfl, (Kept.refl _ _).alloc _⟩
      · go_wp2
        go_ret
        exact ⟨by rw [hh.out]; rfl, (Kept.refl _ _).alloc _⟩
    · obtain ⟨k, rfl⟩ : ∃ k, m = k + 1 := ⟨m - 1, by omega⟩
      have e1 : ((k + 1 : Nat) : Int) - 1 = (k : Int) := by omega
      rw [e1]
      clear e1
      have hx := Nat.lt_of_le_of_lt (Nat.div_le_self (low4 N) (65536 ^ k)) (low4_lt N)
      have hn := Lib.hid (low4_next N k (by omega))
      have hn2 := hn.out
      have hy := dig_lt N k
      have cc : (w.alloc (.cells (wide neg N).toArray 154)).cell? ⟨w.heap.size, 1 + k, none⟩ = some (.int .u64 (dig N k : Nat)) := hb0.cell (wideF_get neg (dig N) (by omega))
      generalize low4 N / 65536 ^ (k + 1) = u at *
      generalize dig N k = d at *
      have hu : u < 281474976710656 := by omega
      clear hn2 hx
      go_wp2
      go_round
      case rel => exact ⟨k, by omega, rfl, by rw [hn.out]; simp⟩
      case measure => simp [intOf] <;> omega
theorem Held_any (neg : Bool) (N : Nat) (h9 : N < 65536 ^ 9) (w : World) :
    Calls Tryz.prog 91 #[.agg (wide neg N).toArray] w fun e w' => e = .returned (.int .i64 (hold (wval neg N))) ∧ Kept [] w w' := by
  rcases Nat.eq_zero_or_pos (dig N 4) with g4 | g4
  · rcases Nat.eq_zero_or_pos (dig N 5) with g5 | g5
    · rcases Nat.eq_zero_or_pos (dig N 6) with g6 | g6
      · rcases Nat.eq_zero_or_pos (dig N 7) with g7 | g7
        · rcases Nat.eq_zero_or_pos (dig N 8) with g8 | g8
          · exact held_small neg N (small_of N h9 g4 g5 g6 g7 g8) w
          · exact held_big8 neg N g4 g5 g6 g7 g8 w
        · exact held_big7 neg N g4 g5 g6 g7 w
      · exact held_big6 neg N g4 g5 g6 w
    · exact held_big5 neg N g4 g5 w
  · exact held_big4 neg N g4 w
end Go.Proofs.YtgdofgckjkmhjaaGreat
