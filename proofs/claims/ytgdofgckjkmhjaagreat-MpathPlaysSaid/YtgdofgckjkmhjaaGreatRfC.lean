/- The document's sender: the ways that one of a rank goes by. -/
import Derived.Test.YtgdofgckjkmhjaaGreatPk11
import Derived.Test.YtgdofgckjkmhjaaGreatPk16
set_option linter.unusedSimpArgs false
set_option linter.unusedVariables false
namespace Go.Proofs.YtgdofgckjkmhjaaGreat.Mp
open Go Go.RowKit
open Qd (dvl dv0 dvl_one infoDg step_of)
set_option linter.unusedSimpArgs false in
set_option maxRecDepth 100000 in
set_option maxHeartbeats 12800000 in
theorem rchoose_m (m : Ms) (a : Option Addr) (c : Nat) (k t rank : Int) (w : World) (o : Ok m k t) (hk : 65 * k ≤ 1000000) :
    Calls Tryz.prog 63 #[.agg (rsd m a c).toArray, .int .i64 rank] w fun e w' => ∃ v, e = .returned v ∧ IntsAt w' v (choM m rank) ∧ Kept [] w w' := by
  obtain ⟨Z, hZ, hz⟩ := zeroRp'
  have HZL := hx (show Z.toList.length = 78 by rw [hZ, rpc_len])
  have HB := hx (Blk.new w (rsd m a c) 40)
  have HOR := hx (fun (W : World) (hb : Blk W w.heap.size (rsd m a c) 40) => rorder_any (some ⟨w.heap.size, 0, none⟩) 2 2 [m.p0, m.p1] W (fun i hi => ⟨w.heap.size, rsd m a c, _, rfl, hb, by
    rcases two hi with rfl | rfl
    · exact rsd_way m a c (i := 0) (by omega)
    · exact rsd_way m a c (i := 1) (by omega)⟩) (fun i hi => by
    rcases two hi with rfl | rfl
    · exact o.p0.s.mono hk
    · exact o.p1.s.mono hk) (by omega))
  obtain ⟨f, g2, hord, hf, hg2, hfg, hcho⟩ := ordM_two m
  have HCH := hx (hcho rank)
  have HORD := hx hord
  have HF := hx (And.intro hf (And.intro hg2 hfg))
  have hff : (f : Int) < 2 := by omega
  have hgg : (g2 : Int) < 2 := by omega
  clear hcho hord hZ o hk
  go_enter Tryz.func63, Tryz.ntmps63
  go_upto_region 2 with (go_at_call 82; refine (HOR.out _ HB.out).mono ?_; rintro e w1 ⟨u, l, rfl, hs, ho, hk1⟩; obtain rfl := srt_ord m l hs; have HOW := hx ho; have B1 := hx (hk1.blk HB.out (by simp)); have K1 := hx (((Kept.refl [] w).alloc _).trans0 hk1); clear hs ho hk1)
  rw [HORD.out] at HOW
  obtain ⟨g, cc, xs, hu, hgc, hcm, hbx, hcl⟩ := (own_ints (l := [f, g2]) HOW.out (by omega)).at_
  have hu2 : u = .slice (some ⟨g, 0, none⟩) 2 cc := hu
  subst hu2
  clear hu
  have e0 : w1.cell? ⟨g, 0, none⟩ = some (.int .i64 (f : Int)) := hbx.cell (hcl 0 (by simp))
  have e1 : w1.cell? ⟨g, 1, none⟩ = some (.int .i64 (g2 : Int)) := hbx.cell (hcl 1 (by simp))
  have hgc2 : 2 ≤ cc := hgc
  have HC := hx (And.intro e0 (And.intro e1 (And.intro hgc2 hcm)))
  have HBX := hx (fun (W : World) (hk3 : Kept [] w1 W) => hk3.blk hbx (by simp))
  have HX0 := hx (show xs[0]? = some (.int .i64 (f : Int)) from hcl 0 (by simp))
  have HX1 := hx (show xs[1]? = some (.int .i64 (g2 : Int)) from hcl 1 (by simp))
  clear hcl hgc e1 hgc2 hcm hbx HOR HB
  go_upto_region 3 with (first
    | (refine load_part rfl 34 (.tmp 14) rfl w.heap.size (f * 78) rfl 40 _ (rpc (m.way f)) _ B1.out (rsd_way m a c HF.out.1) Tryz.underlying34 rfl (infoRpn _) ?_)
    | (refine store_blk rfl 34 (.tmp 6) (.tmp 15) rfl w1.heap.size rfl 34 _ (rpc (m.way f)) rfl (Blk.new' w1 Z 34) (by rw [rpc_len]; exact HZL.out.symm) (infoRpn _) (rpc_one _) ?_; intro w4 hb4 hk4; have B4 := hx hb4; have K4 := hx (((Kept.refl [] w1).alloc _).trans hk4 (ds := []) (fun _ h => h) (fun x h => by simp at h; subst h; exact .inr (Nat.le_refl _))); clear hb4 hk4))
  clear e0 hz HZL
  obtain ⟨g6, hg6⟩ : ∃ g6, w1.heap.size = g6 := ⟨_, rfl⟩
  rw [hg6] at B4
  rw [hg6]
  clear hg6
  have R4 := hx (K4.out.blk B1.out (by simp))
  have HKK := hx (K1.out.trans0 K4.out)
  have HST := hx (fun (p : Pa) (W : World) => rstate_any p W)
  simp only [Act.put]
  go_cut [32] (fun s32 wx => s32 = .bool (!(manyB m f rank)) ∧ Kept [] w4 wx)
  case first =>
    have cl := B4.out.cell (i := 0) (v := .int .i64 (m.way f).s.loss) rfl
    obtain ⟨x, hxx⟩ : ∃ x, stateI (m.way f).quiet = x := ⟨_, rfl⟩
    obtain ⟨L, hL⟩ : ∃ L, (m.way f).s.loss = L := ⟨_, rfl⟩
    have HM := hx (show manyB m f rank = (decide (rank ≤ 0) || (decide (rank = 1) && (decide (6553 ≤ L) || decide (x ≠ 0)))) by unfold manyB; rw [hxx, hL])
    have HS := hx (fun W => show Calls Tryz.prog 53 #[.agg (rpc (m.way f)).toArray] W (fun e w' => e = .returned (.int .i64 x) ∧ Kept [] W w') from by rw [← hxx]; exact rstate_any _ W)
    rw [hL] at cl
    clear hxx hL HC HCH HBX
    by_cases h1 : 1 < rank
    · have d1 : decide (1 < rank) = true := decide_eq_true h1
      have E := hx (show manyB m f rank = false by rw [HM.out]; simp; omega)
      go_wp2_with fail
      go_meet
      exact ⟨Eq.trans rfl (congrArg (fun z => Value.bool (!z)) E.out.symm), Kept.refl _ _⟩
    · have d1 : decide (1 < rank) = false := decide_eq_false h1
      by_cases h2 : rank = 1
      · subst h2
        by_cases h3 : L < 6553
        · have d3 : decide (L < 6553) = true := decide_eq_true h3
          by_cases h4 : x = 0
          · subst h4
            have E := hx (show manyB m f 1 = false by rw [HM.out]; simp; omega)
            go_wp2_with fail
            refine wp_load_mid 34 (.tmp 6) rfl g6 0 rfl (rpc (m.way f)) _ B4.out.range Tryz.underlying34 rfl (infoRpn _) ?_
            go_wp2_with (go_at_call 53; refine (HS.out _).mono ?_; rintro e w5 ⟨rfl, hk5⟩; have K5 := hx hk5; clear hk5)
            go_meet
            exact ⟨Eq.trans rfl (congrArg (fun z => Value.bool (!z)) E.out.symm), K5.out⟩
          · have d4 : (x == 0) = false := beq_eq_false_iff_ne.2 h4
            have E := hx (show manyB m f 1 = true by rw [HM.out]; simp [h4])
            go_wp2_with fail
            refine wp_load_mid 34 (.tmp 6) rfl g6 0 rfl (rpc (m.way f)) _ B4.out.range Tryz.underlying34 rfl (infoRpn _) ?_
            go_wp2_with (go_at_call 53; refine (HS.out _).mono ?_; rintro e w5 ⟨rfl, hk5⟩; have K5 := hx hk5; clear hk5)
            go_meet
            exact ⟨Eq.trans rfl (congrArg (fun z => Value.bool (!z)) E.out.symm), K5.out⟩
        · have d3 : decide (L < 6553) = false := decide_eq_false h3
          have E := hx (show manyB m f 1 = true by rw [HM.out]; simp; omega)
          go_wp2_with fail
          go_meet
          exact ⟨Eq.trans rfl (congrArg (fun z => Value.bool (!z)) E.out.symm), Kept.refl _ _⟩
      · have d2 : (rank == 1) = false := beq_eq_false_iff_ne.2 h2
        have E := hx (show manyB m f rank = true by rw [HM.out]; simp; omega)
        go_wp2_with fail
        go_meet
        exact ⟨Eq.trans rfl (congrArg (fun z => Value.bool (!z)) E.out.symm), Kept.refl _ _⟩
  case rest =>
    obtain ⟨rfl, hk5⟩ := hcut
    have K5 := hx (HKK.out.trans0 hk5)
    have HC5 := hx (And.intro (kept_cell' (K4.out.trans0 hk5) HC.out.1) (And.intro (kept_cell' (K4.out.trans0 hk5) HC.out.2.1) HC.out.2.2))
    have B5 := hx (hk5.blk B4.out (by simp))
    have R5 := hx (hk5.blk R4.out (by simp))
    have BX5 := hx (HBX.out wc (K4.out.trans0 hk5))
    have hc1 : (1 : Int) ≤ (cc : Int) := by have := HC5.out.2.2.1; omega
    have hc2 : (2 : Int) ≤ (cc : Int) := by have := HC5.out.2.2.1; omega
    clear hk5
    cases hm : manyB m f rank with
    | false =>
      have HFIN := hx (show choM m rank = [f] by rw [HCH.out, hm]; rfl)
      clear hm
      go_wp2_with fail
      go_ret
      rw [HFIN.out]
      exact ⟨_, rfl, ⟨⟨g, cc, xs, rfl, (show 1 ≤ cc by have := HC5.out.2.2.1; omega), HC5.out.2.2.2, BX5.out, fun j hj => by simp at hj; subst hj; exact HX0.out⟩⟩, K5.out⟩
    | true =>
      obtain ⟨x, hxx⟩ : ∃ x, stateI (m.way f).quiet = x := ⟨_, rfl⟩
      obtain ⟨z, hzz⟩ : ∃ z, stateI (m.way g2).quiet = z := ⟨_, rfl⟩
      have HCM := hx (show choM m rank = if (decide (z ≠ 2) || decide (x = 2)) = true then [f, g2] else [f] by rw [HCH.out, hm, hxx, hzz]; rfl)
      have HSF := hx (fun W => show Calls Tryz.prog 53 #[.agg (rpc (m.way f)).toArray] W (fun e w' => e = .returned (.int .i64 x) ∧ Kept [] W w') from by rw [← hxx]; exact rstate_any _ W)
      have HSG := hx (fun W => show Calls Tryz.prog 53 #[.agg (rpc (m.way g2)).toArray] W (fun e w' => e = .returned (.int .i64 z) ∧ Kept [] W w') from by rw [← hzz]; exact rstate_any _ W)
      clear hm hxx hzz HCH
      have e1 := HC5.out.2.1
      by_cases h1 : x = 2
      · subst h1
        have HFIN := hx (show choM m rank = [f, g2] by rw [HCM.out]; simp)
        go_wp2_with (first
          | (refine load_blk rfl 34 (.tmp 6) rfl g6 rfl 34 _ _ B5.out Tryz.underlying34 rfl (infoRpn _) ?_)
          | (go_at_call 53; refine (HSF.out _).mono ?_; rintro e w6 ⟨rfl, hk6⟩; have K6 := hx hk6; clear hk6))
        go_ret
        rw [HFIN.out]
        exact ⟨_, rfl, ⟨⟨g, cc, xs, rfl, HC5.out.2.2.1, HC5.out.2.2.2, K6.out.blk BX5.out (by simp), fun j hj => by
          have hj2 : j < 2 := hj
          rcases two hj2 with rfl | rfl
          · exact HX0.out
          · exact HX1.out⟩⟩, K5.out.trans0 K6.out⟩
      · have d1 : (x != 2) = true := by simpa using h1
        by_cases h2 : z = 2
        · subst h2
          have HFIN := hx (show choM m rank = [f] by rw [HCM.out]; simp [h1])
          clear h1
          go_upto_region 6 with (first
            | (refine load_blk rfl 34 (.tmp 6) rfl g6 rfl 34 _ _ B5.out Tryz.underlying34 rfl (infoRpn _) ?_)
            | ((fail_if_success have := K6); go_at_call 53; refine (HSF.out _).mono ?_; rintro e w6 ⟨rfl, hk6⟩; have K6 := hx hk6; have R6 := hx (hk6.blk R5.out (by simp)); have e16 := kept_cell' hk6 HC5.out.2.1; clear hk6)
            | (refine wp_load_mid 34 (.tmp 43) rfl w.heap.size (g2 * 78) rfl (rpc (m.way g2)) _ ((rsd_way m a c HF.out.2.1).range R6.out) Tryz.underlying34 rfl (infoRpn _) ?_)
            | (go_at_call 53; refine (HSG.out _).mono ?_; rintro e w7 ⟨rfl, hk7⟩; have K7 := hx hk7; clear hk7))
          go_wp2_with fail
          go_ret
          rw [HFIN.out]
          exact ⟨_, rfl, ⟨⟨g, cc, xs, rfl, (show 1 ≤ cc by have := HC5.out.2.2.1; omega), HC5.out.2.2.2, (K6.out.trans0 K7.out).blk BX5.out (by simp), fun j hj => by simp at hj; subst hj; exact HX0.out⟩⟩, K5.out.trans0 (K6.out.trans0 K7.out)⟩
        · have d2 : (z == 2) = false := beq_eq_false_iff_ne.2 h2
          have HFIN := hx (show choM m rank = [f, g2] by rw [HCM.out]; simp [h2])
          clear h1 h2
          go_upto_region 7 with (first
            | (refine load_blk rfl 34 (.tmp 6) rfl g6 rfl 34 _ _ B5.out Tryz.underlying34 rfl (infoRpn _) ?_)
            | ((fail_if_success have := K6); go_at_call 53; refine (HSF.out _).mono ?_; rintro e w6 ⟨rfl, hk6⟩; have K6 := hx hk6; have R6 := hx (hk6.blk R5.out (by simp)); have e16 := kept_cell' hk6 HC5.out.2.1; clear hk6)
            | (refine wp_load_mid 34 (.tmp 43) rfl w.heap.size (g2 * 78) rfl (rpc (m.way g2)) _ ((rsd_way m a c HF.out.2.1).range R6.out) Tryz.underlying34 rfl (infoRpn _) ?_)
            | (go_at_call 53; refine (HSG.out _).mono ?_; rintro e w7 ⟨rfl, hk7⟩; have K7 := hx hk7; clear hk7))
          go_wp2_with fail
          go_ret
          rw [HFIN.out]
          exact ⟨_, rfl, ⟨⟨g, cc, xs, rfl, HC5.out.2.2.1, HC5.out.2.2.2, (K6.out.trans0 K7.out).blk BX5.out (by simp), fun j hj => by
            have hj2 : j < 2 := hj
            rcases two hj2 with rfl | rfl
            · exact HX0.out
            · exact HX1.out⟩⟩, K5.out.trans0 (K6.out.trans0 K7.out)⟩
end Go.Proofs.YtgdofgckjkmhjaaGreat.Mp
