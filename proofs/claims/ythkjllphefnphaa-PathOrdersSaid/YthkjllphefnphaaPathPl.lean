import Derived.Test.YthkjllphefnphaaPathPa
namespace Go.Proofs.Ythkjllphefnphaa
open Go Go.RowKit
set_option maxRecDepth 100000 in
set_option maxHeartbeats 20000000 in
theorem played_any (a : Option Addr) (len cap : Nat) (w : World) (hA : Acts w a len cap) :
    Calls Try.prog 7 #[.slice a len cap] w fun e w' => ∃ p, e = .returned (.tuple #[.agg (pac p).toArray, .agg (rpc p).toArray, .bool true]) ∧ PaOk p 100 20000 ∧ GapOk p ∧ Kept [] w w' := by
  obtain ⟨Z, hZ, hz⟩ := zeroPa'
  obtain ⟨Y, hY, hy⟩ := zeroRp'
  obtain ⟨V, hV, hv⟩ := zeroAc'
  have P0 := hx (PlW.start w Z Y hZ hY)
  have HA := hx hA
  have HV := hx hV
  have HYY := hx hY
  clear hZ hY hV hA
  go_enter Try.func7, Try.ntmps7
  go_wp2_with fail
  clear hz
  generalize (((w.alloc (.cells Z 31)).alloc (.cells Y 37)).alloc (.cells Z 31)).alloc (.cells Y 37) = W0 at *
  go_loopw [7] (fun iv wr => ∃ (i : Nat) (p : Pa), i ≤ len ∧ i ≤ 100 ∧ iv = .int .i64 i ∧ PlW w wr p p ∧ PaOk p (i : Int) (200 * (i : Int)) ∧ GapOk p) (fun iv _ => len - (intOf iv).toNat)
  case atStart => exact ⟨0, pa0, by omega, by omega, rfl, P0.out, by simpa using pa0_ok, gap0⟩
  case round =>
    clear P0
    obtain ⟨i, p, hi1, hi2, rfl, hp, hok, hgp⟩ := hrel
    have HP := hx hp
    have HOK := hx hok
    have HGP := hx hgp
    have hmm0 := hx hp.lt
    clear hp hok hgp
    by_cases hlt : i < len ∧ i < 100
    · obtain ⟨hl1, hl2⟩ := hlt
      have hj1 : (i : Int) < (len : Int) := by omega
      have hj2 : (i : Int) < 100 := by omega
      obtain ⟨b, off, x, rfl, hxn, hr⟩ := (HA.out.wr HP.out).at i hl1
      have HR := hx hr
      have HN := hx hxn
      clear hr hxn
      have HV0 := hx (show Blk (wr.alloc (.cells V 54)) wr.heap.size (acc ⟨0, 0, 0⟩) 54 by
        have h := Blk.new' wr V 54
        rw [HV.out] at h
        exact h)
      go_upto_region 7 with (first
        | refine wpList_load_mid rfl 54 (.tmp 26) rfl b (off + i * 3) rfl (acc x) _ HR.out Try.underlying54 rfl (infoAc _) ?_
        | (refine store_blk rfl 54 (.tmp 8) (.tmp 27) rfl wr.heap.size rfl 54 _ _ rfl HV0.out rfl (infoAc _) (acc_one _) ?_
           intro w1 hb1 hk1
           have HB1 := hx hb1
           have HP1 := hx (HP.out.new (((Kept.refl [wr.heap.size] wr).alloc _).trans1 hk1) (Nat.le_refl _))
           clear hb1 hk1 HV0 HP HR))
      obtain ⟨kd, n, t⟩ := x
      have c0 := HB1.out.cell (i := 0) (v := .int .i64 kd) rfl
      have c1 := HB1.out.cell (i := 1) (v := .int .u32 n) rfl
      have c2 := HB1.out.cell (i := 2) (v := .int .i64 t) rfl
      have hmm := hmm0.out
      have HM := hx (show w.heap.size + 1 + 1 + 1 < wr.heap.size from hmm)
      clear hmm hmm0
      generalize wr.heap.size = m at *
      by_cases k0 : kd = 0
      · subst k0
        go_wp2
        go_loopw [9] (fun iv wr2 => ∃ (j : Nat) (q : Pa), j ≤ 200 ∧ iv = .int .i64 j ∧ Blk wr2 m (acc ⟨0, n, t⟩) 54 ∧ PlW w wr2 q q ∧ PaOk q (i : Int) (200 * (i : Int) + j) ∧ GapOk q) (fun iv _ => 200 - (intOf iv).toNat)
        case atStart => exact ⟨0, p, by omega, rfl, HB1.out, HP1.out, by have h := HOK.out; exact h.mono (by omega) (by omega), HGP.out⟩
        case round =>
          clear c0 c1 c2 HP1 HB1 HOK HGP
          obtain ⟨j, q, hj, rfl, hb, hp, hok, hgp⟩ := hrel
          have c2 := hb.cell (i := 2) (v := .int .i64 t) rfl
          have HB := hx hb
          have HP := hx hp
          have HGP := hx hgp
          have HOK0 := hx hok
          clear hb hp hgp hok
          by_cases hjt : (j : Int) < t
          · by_cases hj2 : (j : Int) < 200
            · go_wp2_with (refine load_blk rfl 37 (.tmp 6) rfl (w.heap.size + 1 + 1 + 1) rfl 37 _ _ HP.out.e Try.underlying37 rfl (infoRpn _) ?_)
              refine (rtick q _ _ _ HOK0.out (by omega)).mono ?_
              rintro e w2 ⟨rfl, hk2⟩
              have HP2 := hx (HP.out.kept hk2)
              have HB2 := hx (hk2.blk HB.out (by simp))
              have hw2 := HP2.out.lt
              have HW2 := hx (And.intro hw2 HB2.out.lt)
              clear hk2 HP HB c2 hw2
              have HZ2 := hx (show Blk (w2.alloc (.cells Y 37)) w2.heap.size (rpc pa0) 37 by
                have h := Blk.new' w2 Y 37
                rw [HYY.out] at h
                exact h)
              go_wp2_with (first
                | (refine store_blk rfl 37 (.tmp 10) (.tmp 45) rfl w2.heap.size rfl 37 _ _ rfl HZ2.out (rpc_len2 _ _) (infoRpn _) (rpc_one _) ?_
                   intro w3 hb3 hk3
                   have HC3 := hx hb3
                   have HP3 := hx (HP2.out.new (((Kept.refl [w2.heap.size] w2).alloc _).trans1 hk3) (Nat.le_refl _))
                   have HB3 := hx ((((Kept.refl [w2.heap.size] w2).alloc _).trans1 hk3).blk HB2.out (by have h := HW2.out.2; simp; omega))
                   clear hb3 hk3))
              clear HZ2 HP2 HB2
              refine (ptick (w.heap.size + 1 + 1) q _ _ _ HP3.out.b HOK0.out (by omega)).mono ?_
              rintro e w4 ⟨rfl, hb4, hk4⟩
              have HP4 := hx (HP3.out.setp hb4 hk4)
              have HC4 := hx (hk4.blk HC3.out (by have h := HW2.out.1; simp; omega))
              have HB4 := hx (hk4.blk HB3.out (by have h := HM.out; simp; omega))
              clear hb4 hk4 HP3 HC3 HB3
              go_wp2_with (first
                | refine load_blk rfl 37 (.tmp 10) rfl w2.heap.size rfl 37 _ _ HC4.out Try.underlying37 rfl (infoRpn _) ?_
                | (refine store_blk rfl 37 (.tmp 6) (.tmp 52) rfl (w.heap.size + 1 + 1 + 1) rfl 37 _ _ rfl HP4.out.e (rpc_len2 _ _) (infoRpn _) (rpc_one _) ?_
                   intro w5 hb5 hk5
                   have HP5 := hx (HP4.out.setq hb5 hk5)
                   have HB5 := hx (hk5.blk HB4.out (by have h := HM.out; simp; omega))
                   clear hb5 hk5 HP4 HB4 HC4))
              go_roundw
              case rel => exact ⟨j + 1, (tickP q).1, by omega, by go_num, HB5.out, HP5.out, by have h := tick_ok q _ _ HOK0.out; exact h.mono (by omega) (by omega), gap_tick q HGP.out⟩
              case measure => simp [intOf] <;> omega
            · have HOK := hx (show PaOk q ((i : Int) + 1) (200 * ((i : Int) + 1)) from HOK0.out.mono (by omega) (by omega))
              clear HOK0

              go_wp2_with (first
                | refine load_blk rfl 31 (.tmp 5) rfl (w.heap.size + 1 + 1) rfl 31 _ _ HP.out.b Try.underlying31 rfl (infoPan _) ?_
                | refine load_blk rfl 37 (.tmp 6) rfl (w.heap.size + 1 + 1 + 1) rfl 37 _ _ HP.out.e Try.underlying37 rfl (infoRpn _) ?_)
              refine (lsame14 q _ HOK.out.seen.bits).mono ?_
              rintro e w9 ⟨rfl, hk9⟩
              have HP9 := hx (HP.out.kept hk9)
              clear HP hk9
              go_wp2
              go_roundw
              case rel => exact ⟨i + 1, q, by omega, by omega, by go_num, HP9.out, by have h := HOK.out; exact h.mono (by omega) (by omega), HGP.out⟩
              case measure => simp [intOf] <;> omega
          · have HOK := hx (show PaOk q ((i : Int) + 1) (200 * ((i : Int) + 1)) from HOK0.out.mono (by omega) (by omega))
            clear HOK0

            go_wp2_with (first
              | refine load_blk rfl 31 (.tmp 5) rfl (w.heap.size + 1 + 1) rfl 31 _ _ HP.out.b Try.underlying31 rfl (infoPan _) ?_
              | refine load_blk rfl 37 (.tmp 6) rfl (w.heap.size + 1 + 1 + 1) rfl 37 _ _ HP.out.e Try.underlying37 rfl (infoRpn _) ?_)
            refine (lsame14 q _ HOK.out.seen.bits).mono ?_
            rintro e w9 ⟨rfl, hk9⟩
            have HP9 := hx (HP.out.kept hk9)
            clear HP hk9
            go_wp2
            go_roundw
            case rel => exact ⟨i + 1, q, by omega, by omega, by go_num, HP9.out, by have h := HOK.out; exact h.mono (by omega) (by omega), HGP.out⟩
            case measure => simp [intOf] <;> omega
      · have e0 : (kd == 0) = false := by simp [k0]
        by_cases k1 : kd = 1
        · subst k1
          go_wp2_with (refine load_blk rfl 37 (.tmp 6) rfl (w.heap.size + 1 + 1 + 1) rfl 37 _ _ HP1.out.e Try.underlying37 rfl (infoRpn _) ?_)
          refine (rheard n p _ _ _ HOK.out (by omega) HN.out).mono ?_
          rintro e w2 ⟨rfl, hk2⟩
          have HP2 := hx (HP1.out.kept hk2)
          have HB2 := hx (hk2.blk HB1.out (by simp))
          have hw2 := HP2.out.lt
          have HW2 := hx (And.intro hw2 HB2.out.lt)
          clear hk2 HP1 HB1 c0 c1 c2 hw2
          have HZ2 := hx (show Blk (w2.alloc (.cells Y 37)) w2.heap.size (rpc pa0) 37 by
            have h := Blk.new' w2 Y 37
            rw [HYY.out] at h
            exact h)
          go_wp2_with (first
            | (refine store_blk rfl 37 (.tmp 12) (.tmp 60) rfl w2.heap.size rfl 37 _ _ rfl HZ2.out (rpc_len2 _ _) (infoRpn _) (rpc_one _) ?_
               intro w3 hb3 hk3
               have HC3 := hx hb3
               have HP3 := hx (HP2.out.new (((Kept.refl [w2.heap.size] w2).alloc _).trans1 hk3) (Nat.le_refl _))
               have HB3 := hx ((((Kept.refl [w2.heap.size] w2).alloc _).trans1 hk3).blk HB2.out (by have h := HW2.out.2; simp; omega))
               have d1 := HB3.out.cell (i := 1) (v := .int .u32 n) rfl
               clear hb3 hk3))
          clear HZ2 HP2 HB2
          refine (pheard (w.heap.size + 1 + 1) n p _ _ _ HP3.out.b HOK.out (by omega) HN.out).mono ?_
          rintro e w4 ⟨rfl, hb4, hk4⟩
          have HP4 := hx (HP3.out.setp hb4 hk4)
          have HC4 := hx (hk4.blk HC3.out (by have h := HW2.out.1; simp; omega))
          clear hb4 hk4 HP3 HC3 HB3 d1
          go_upto_region 28 with (first
            | refine load_blk rfl 37 (.tmp 12) rfl w2.heap.size rfl 37 _ _ HC4.out Try.underlying37 rfl (infoRpn _) ?_
            | (refine store_blk rfl 37 (.tmp 6) (.tmp 69) rfl (w.heap.size + 1 + 1 + 1) rfl 37 _ _ rfl HP4.out.e (rpc_len2 _ _) (infoRpn _) (rpc_one _) ?_
               intro w5 hb5 hk5
               have HP := hx (HP4.out.setq hb5 hk5)
               clear hb5 hk5 HP4 HC4))
          have HOK2 := hx (heard_ok p n _ _ HOK.out HN.out (by omega) (by omega))
          clear HOK HGP
          have HOK := hx (show PaOk (heardP p n).1 ((i : Int) + 1) (200 * ((i : Int) + 1)) from HOK2.out.mono (by omega) (by omega))
          have HGP := hx (gap_heard p n)
          clear HOK2

          go_wp2_with (first
            | refine load_blk rfl 31 (.tmp 5) rfl (w.heap.size + 1 + 1) rfl 31 _ _ HP.out.b Try.underlying31 rfl (infoPan _) ?_
            | refine load_blk rfl 37 (.tmp 6) rfl (w.heap.size + 1 + 1 + 1) rfl 37 _ _ HP.out.e Try.underlying37 rfl (infoRpn _) ?_)
          refine (lsame14 (heardP p n).1 _ HOK.out.seen.bits).mono ?_
          rintro e w9 ⟨rfl, hk9⟩
          have HP9 := hx (HP.out.kept hk9)
          clear HP hk9
          go_wp2
          go_roundw
          case rel => exact ⟨i + 1, (heardP p n).1, by omega, by omega, by go_num, HP9.out, by have h := HOK.out; exact h.mono (by omega) (by omega), HGP.out⟩
          case measure => simp [intOf] <;> omega
        · have e1 : (kd == 1) = false := by simp [k1]
          by_cases k2 : kd = 2
          · subst k2
            go_wp2_with fail
            refine (ptrip (w.heap.size + 1 + 1) t p _ _ _ HP1.out.b HOK.out (by omega)).mono ?_
            rintro e w2 ⟨rfl, hb2, hk2⟩
            have HP2 := hx (HP1.out.setp hb2 hk2)
            have HB2 := hx (hk2.blk HB1.out (by have h := HM.out; simp; omega))
            clear hb2 hk2 HP1 HB1 c0 c1 c2
            have c2 := HB2.out.cell (i := 2) (v := .int .i64 t) rfl
            go_wp2_with (refine load_part rfl 32 (.tmp 76) rfl (w.heap.size + 1 + 1 + 1) 0 rfl 37 _ _ _ HP2.out.e (rpc_s _) Try.underlying32 rfl (infoStn _) ?_)
            refine (rtrip t p _ _ _ HOK.out (by omega)).mono ?_
            rintro e w3 ⟨rfl, hk3⟩
            have HP3 := hx (HP2.out.kept hk3)
            clear hk3 HP2 HB2 c2
            go_upto_region 28 with (first
              | (refine store_part rfl 32 (.tmp 81) (.tmp 80) rfl (w.heap.size + 1 + 1 + 1) 0 rfl 37 _ _ rfl HP3.out.e (by rw [rpc_len]; simp [stc]) (infoStn _) (stc_one _) ?_
                 intro w5 hb5 hk5
                 rw [rpc_set_s] at hb5
                 have HP := hx (HP3.out.setq hb5 hk5)
                 clear hb5 hk5 HP3))
            have HOK2 := hx (tripP_ok p t _ _ HOK.out)
            have HGP2 := hx (gap_trip p (tripS p.s t) HGP.out)
            clear HOK HGP
            have HOK := hx (show PaOk { p with s := tripS p.s t } ((i : Int) + 1) (200 * ((i : Int) + 1)) from HOK2.out.mono (by omega) (by omega))
            have HGP := HGP2
            clear HOK2 HGP2

            go_wp2_with (first
              | refine load_blk rfl 31 (.tmp 5) rfl (w.heap.size + 1 + 1) rfl 31 _ _ HP.out.b Try.underlying31 rfl (infoPan _) ?_
              | refine load_blk rfl 37 (.tmp 6) rfl (w.heap.size + 1 + 1 + 1) rfl 37 _ _ HP.out.e Try.underlying37 rfl (infoRpn _) ?_)
            refine (lsame14 { p with s := tripS p.s t } _ HOK.out.seen.bits).mono ?_
            rintro e w9 ⟨rfl, hk9⟩
            have HP9 := hx (HP.out.kept hk9)
            clear HP hk9
            go_wp2
            go_roundw
            case rel => exact ⟨i + 1, { p with s := tripS p.s t }, by omega, by omega, by go_num, HP9.out, by have h := HOK.out; exact h.mono (by omega) (by omega), HGP.out⟩
            case measure => simp [intOf] <;> omega
          · have e2 : (kd == 2) = false := by simp [k2]
            by_cases k3 : kd = 3
            · subst k3
              have HC := hx (pnumber (w.heap.size + 1 + 1) p w1.drew HP1.out.b.drew HOK.out.next)
              have HPd := hx (HP1.out.kept (Kept.refl [] w1).drew)
              have c77 := HP1.out.e.cell (i := 77) (v := .int .u32 p.next) (rpc_tail p 3 (by omega))
              clear HB1 HP1 c1 c2
              go_upto_region 25 with fail
              go_region_with (go_at_call 17; refine HC.out.mono ?_; rintro e w2 ⟨rfl, hb2, hk2⟩; have HP2 := hx (HPd.out.setp hb2 hk2); have d77 := HP2.out.e.cell (i := 77) (v := .int .u32 p.next) (rpc_tail p 3 (by omega)); clear hb2 hk2)
              all_goals
                have hf := HP2.out.e.free
                have hN := hx (show (((p.next : Int) + 1) % 4294967296 : Int) = ((nextU p.next : Nat) : Int) by unfold nextU; omega)
                have HP := hx (show PlW w (w2.setCell ⟨w.heap.size + 1 + 1 + 1, 77, none⟩ (.int .u32 (((p.next : Int) + 1) % 4294967296))) { p with next := nextU p.next } { p with next := nextU p.next } by
                  rw [hN.out]
                  exact HP2.out.setq (Blk.rnext (s := p.s) (sn := p.seen) (q := p.quiet) (r := p.probe) (g := p.gap) (n := p.next) HP2.out.e (nextU p.next)) ((Kept.refl _ _).setCell (.inl (by simp)) _))
                clear HP2 HPd HC c77
                go_upto_region 28 with fail
                clear d77 hf
                generalize World.setCell _ _ _ = W3 at *
                have HOK2 := hx (next_ok p _ _ HOK.out)
                have HGP2 := hx (gap_next p (nextU p.next) HGP.out)
                clear HOK HGP
                have HOK := hx (show PaOk { p with next := nextU p.next } ((i : Int) + 1) (200 * ((i : Int) + 1)) from HOK2.out.mono (by omega) (by omega))
                have HGP := HGP2
                clear HOK2 HGP2
                go_wp2_with (first
                  | refine load_blk rfl 31 (.tmp 5) rfl (w.heap.size + 1 + 1) rfl 31 _ _ HP.out.b Try.underlying31 rfl (infoPan _) ?_
                  | refine load_blk rfl 37 (.tmp 6) rfl (w.heap.size + 1 + 1 + 1) rfl 37 _ _ HP.out.e Try.underlying37 rfl (infoRpn _) ?_)
                refine (lsame14 { p with next := nextU p.next } _ HOK.out.seen.bits).mono ?_
                rintro e w9 ⟨rfl, hk9⟩
                have HP9 := hx (HP.out.kept hk9)
                clear HP hk9
                go_wp2
                go_roundw
                case rel => exact ⟨i + 1, { p with next := nextU p.next }, by omega, by omega, by go_num, HP9.out, by have h := HOK.out; exact h.mono (by omega) (by omega), HGP.out⟩
                case measure => simp [intOf] <;> omega
            · have e3 : (kd == 3) = false := by simp [k3]
              go_wp2
              go_roundw
              case rel => exact ⟨i + 1, p, by omega, by omega, by go_num, HP1.out, by have h := HOK.out; exact h.mono (by omega) (by omega), HGP.out⟩
              case measure => simp [intOf] <;> omega
    · clear hmm0
      have hend : ¬ ((i : Int) < (len : Int)) ∨ ((i : Int) < (len : Int) ∧ ¬ ((i : Int) < 100)) := by omega
      skip
      rcases hend with hq | ⟨hq, hq2⟩
      · go_upto_region 30 with fail
        have H := hx HP.out.y
        clear HP
        refine wp_region_any (by kernel_rfl) ?_
        change wpAny _ _ _ _ _ _ _ (World.drew _)
        refine wpAny_ready (rs := [0, 1]) (by decide +kernel) (by simp) ?_
        refine AllReady.cons rfl (fun K hK => ?_) (AllReady.cons rfl (fun K hK => ?_) AllReady.nil)
        · refine step_load rfl 31 (.tmp 5) rfl (w.heap.size + 1 + 1) 0 rfl 31 _ _ _ H.out.b (Part.all _) Try.underlying31 rfl (infoPan _) ?_
          try go_simp
          refine hK _ _ ?_
          clear hK K
          refine wpAny_ready (rs := [1, 2]) (by decide +kernel) (by simp) ?_
          refine AllReady.cons rfl (fun K hK => ?_) (AllReady.cons rfl (fun K hK => ?_) AllReady.nil)
          · refine step_load rfl 37 (.tmp 6) rfl (w.heap.size + 1 + 1 + 1) 0 rfl 37 _ _ _ H.out.e (Part.all _) Try.underlying37 rfl (infoRpn _) ?_
            try go_simp
            refine hK _ _ ?_
            clear hK K
            refine wpAny_ready (rs := [2]) (by decide +kernel) (by simp) ?_
            refine AllReady.cons rfl (fun K hK => ?_) AllReady.nil
            (refine step_store rfl 31 (.tmp 2) (.tmp 100) rfl w.heap.size 0 rfl 31 _ (pac p) rfl H.out.r0 (by simp [pac_len]) (infoPan _) (pac_one _) ?_; intro w6 hb6 hk6; have H := hx (H.out.set0 hb6 hk6); clear hb6 hk6)
            try go_simp
            refine hK _ _ ?_
            clear hK K
            refine wpAny_ready (rs := [3]) (by decide +kernel) (by simp) ?_
            refine AllReady.cons rfl (fun K hK => ?_) AllReady.nil
            (refine step_store rfl 37 (.tmp 3) (.tmp 101) rfl (w.heap.size + 1) 0 rfl 37 _ (rpc p) rfl H.out.r1 (by simp [rpc_len]) (infoRpn _) (rpc_one _) ?_; intro w7 hb7 hk7; have H := hx (H.out.set1 hb7 hk7); clear hb7 hk7)
            try go_simp
            refine hK _ _ ?_
            clear hK K
            refine wpAny_ready (rs := [4]) (by decide +kernel) (by simp) ?_
            refine AllReady.cons rfl (fun K hK => ?_) AllReady.nil
            refine step_assign rfl _ rfl ?_
            try go_simp
            refine hK _ _ ?_
            clear hK K
            refine wpAny_done (by kernel_rfl) ?_ _
            go_wp2
            exact bodyPost_ret (ret_blk3 rfl _ w.heap.size (w.heap.size + 1) _ _ _ _ _ _ _ rfl rfl rfl H.out.r0 H.out.r1 Try.underlying31 rfl (infoPan _) Try.underlying37 rfl (infoRpn _)) rfl ⟨p, rfl, HOK.out.mono (by omega) (by omega), HGP.out, H.out.k⟩
          · (refine step_store rfl 31 (.tmp 2) (.tmp 100) rfl w.heap.size 0 rfl 31 _ (pac p) rfl H.out.r0 (by simp [pac_len]) (infoPan _) (pac_one _) ?_; intro w6 hb6 hk6; have H := hx (H.out.set0 hb6 hk6); clear hb6 hk6)
            try go_simp
            refine hK _ _ ?_
            clear hK K
            refine wpAny_ready (rs := [1]) (by decide +kernel) (by simp) ?_
            refine AllReady.cons rfl (fun K hK => ?_) AllReady.nil
            refine step_load rfl 37 (.tmp 6) rfl (w.heap.size + 1 + 1 + 1) 0 rfl 37 _ _ _ H.out.e (Part.all _) Try.underlying37 rfl (infoRpn _) ?_
            try go_simp
            refine hK _ _ ?_
            clear hK K
            refine wpAny_ready (rs := [3]) (by decide +kernel) (by simp) ?_
            refine AllReady.cons rfl (fun K hK => ?_) AllReady.nil
            (refine step_store rfl 37 (.tmp 3) (.tmp 101) rfl (w.heap.size + 1) 0 rfl 37 _ (rpc p) rfl H.out.r1 (by simp [rpc_len]) (infoRpn _) (rpc_one _) ?_; intro w7 hb7 hk7; have H := hx (H.out.set1 hb7 hk7); clear hb7 hk7)
            try go_simp
            refine hK _ _ ?_
            clear hK K
            refine wpAny_ready (rs := [4]) (by decide +kernel) (by simp) ?_
            refine AllReady.cons rfl (fun K hK => ?_) AllReady.nil
            refine step_assign rfl _ rfl ?_
            try go_simp
            refine hK _ _ ?_
            clear hK K
            refine wpAny_done (by kernel_rfl) ?_ _
            go_wp2
            exact bodyPost_ret (ret_blk3 rfl _ w.heap.size (w.heap.size + 1) _ _ _ _ _ _ _ rfl rfl rfl H.out.r0 H.out.r1 Try.underlying31 rfl (infoPan _) Try.underlying37 rfl (infoRpn _)) rfl ⟨p, rfl, HOK.out.mono (by omega) (by omega), HGP.out, H.out.k⟩
        · refine step_load rfl 37 (.tmp 6) rfl (w.heap.size + 1 + 1 + 1) 0 rfl 37 _ _ _ H.out.e (Part.all _) Try.underlying37 rfl (infoRpn _) ?_
          try go_simp
          refine hK _ _ ?_
          clear hK K
          refine wpAny_ready (rs := [0]) (by decide +kernel) (by simp) ?_
          refine AllReady.cons rfl (fun K hK => ?_) AllReady.nil
          refine step_load rfl 31 (.tmp 5) rfl (w.heap.size + 1 + 1) 0 rfl 31 _ _ _ H.out.b (Part.all _) Try.underlying31 rfl (infoPan _) ?_
          try go_simp
          refine hK _ _ ?_
          clear hK K
          refine wpAny_ready (rs := [2]) (by decide +kernel) (by simp) ?_
          refine AllReady.cons rfl (fun K hK => ?_) AllReady.nil
          (refine step_store rfl 31 (.tmp 2) (.tmp 100) rfl w.heap.size 0 rfl 31 _ (pac p) rfl H.out.r0 (by simp [pac_len]) (infoPan _) (pac_one _) ?_; intro w6 hb6 hk6; have H := hx (H.out.set0 hb6 hk6); clear hb6 hk6)
          try go_simp
          refine hK _ _ ?_
          clear hK K
          refine wpAny_ready (rs := [3]) (by decide +kernel) (by simp) ?_
          refine AllReady.cons rfl (fun K hK => ?_) AllReady.nil
          (refine step_store rfl 37 (.tmp 3) (.tmp 101) rfl (w.heap.size + 1) 0 rfl 37 _ (rpc p) rfl H.out.r1 (by simp [rpc_len]) (infoRpn _) (rpc_one _) ?_; intro w7 hb7 hk7; have H := hx (H.out.set1 hb7 hk7); clear hb7 hk7)
          try go_simp
          refine hK _ _ ?_
          clear hK K
          refine wpAny_ready (rs := [4]) (by decide +kernel) (by simp) ?_
          refine AllReady.cons rfl (fun K hK => ?_) AllReady.nil
          refine step_assign rfl _ rfl ?_
          try go_simp
          refine hK _ _ ?_
          clear hK K
          refine wpAny_done (by kernel_rfl) ?_ _
          go_wp2
          exact bodyPost_ret (ret_blk3 rfl _ w.heap.size (w.heap.size + 1) _ _ _ _ _ _ _ rfl rfl rfl H.out.r0 H.out.r1 Try.underlying31 rfl (infoPan _) Try.underlying37 rfl (infoRpn _)) rfl ⟨p, rfl, HOK.out.mono (by omega) (by omega), HGP.out, H.out.k⟩
      · go_upto_region 30 with fail
        have H := hx HP.out.y
        clear HP
        refine wp_region_any (by kernel_rfl) ?_
        change wpAny _ _ _ _ _ _ _ (World.drew _)
        refine wpAny_ready (rs := [0, 1]) (by decide +kernel) (by simp) ?_
        refine AllReady.cons rfl (fun K hK => ?_) (AllReady.cons rfl (fun K hK => ?_) AllReady.nil)
        · refine step_load rfl 31 (.tmp 5) rfl (w.heap.size + 1 + 1) 0 rfl 31 _ _ _ H.out.b (Part.all _) Try.underlying31 rfl (infoPan _) ?_
          try go_simp
          refine hK _ _ ?_
          clear hK K
          refine wpAny_ready (rs := [1, 2]) (by decide +kernel) (by simp) ?_
          refine AllReady.cons rfl (fun K hK => ?_) (AllReady.cons rfl (fun K hK => ?_) AllReady.nil)
          · refine step_load rfl 37 (.tmp 6) rfl (w.heap.size + 1 + 1 + 1) 0 rfl 37 _ _ _ H.out.e (Part.all _) Try.underlying37 rfl (infoRpn _) ?_
            try go_simp
            refine hK _ _ ?_
            clear hK K
            refine wpAny_ready (rs := [2]) (by decide +kernel) (by simp) ?_
            refine AllReady.cons rfl (fun K hK => ?_) AllReady.nil
            (refine step_store rfl 31 (.tmp 2) (.tmp 100) rfl w.heap.size 0 rfl 31 _ (pac p) rfl H.out.r0 (by simp [pac_len]) (infoPan _) (pac_one _) ?_; intro w6 hb6 hk6; have H := hx (H.out.set0 hb6 hk6); clear hb6 hk6)
            try go_simp
            refine hK _ _ ?_
            clear hK K
            refine wpAny_ready (rs := [3]) (by decide +kernel) (by simp) ?_
            refine AllReady.cons rfl (fun K hK => ?_) AllReady.nil
            (refine step_store rfl 37 (.tmp 3) (.tmp 101) rfl (w.heap.size + 1) 0 rfl 37 _ (rpc p) rfl H.out.r1 (by simp [rpc_len]) (infoRpn _) (rpc_one _) ?_; intro w7 hb7 hk7; have H := hx (H.out.set1 hb7 hk7); clear hb7 hk7)
            try go_simp
            refine hK _ _ ?_
            clear hK K
            refine wpAny_ready (rs := [4]) (by decide +kernel) (by simp) ?_
            refine AllReady.cons rfl (fun K hK => ?_) AllReady.nil
            refine step_assign rfl _ rfl ?_
            try go_simp
            refine hK _ _ ?_
            clear hK K
            refine wpAny_done (by kernel_rfl) ?_ _
            go_wp2
            exact bodyPost_ret (ret_blk3 rfl _ w.heap.size (w.heap.size + 1) _ _ _ _ _ _ _ rfl rfl rfl H.out.r0 H.out.r1 Try.underlying31 rfl (infoPan _) Try.underlying37 rfl (infoRpn _)) rfl ⟨p, rfl, HOK.out.mono (by omega) (by omega), HGP.out, H.out.k⟩
          · (refine step_store rfl 31 (.tmp 2) (.tmp 100) rfl w.heap.size 0 rfl 31 _ (pac p) rfl H.out.r0 (by simp [pac_len]) (infoPan _) (pac_one _) ?_; intro w6 hb6 hk6; have H := hx (H.out.set0 hb6 hk6); clear hb6 hk6)
            try go_simp
            refine hK _ _ ?_
            clear hK K
            refine wpAny_ready (rs := [1]) (by decide +kernel) (by simp) ?_
            refine AllReady.cons rfl (fun K hK => ?_) AllReady.nil
            refine step_load rfl 37 (.tmp 6) rfl (w.heap.size + 1 + 1 + 1) 0 rfl 37 _ _ _ H.out.e (Part.all _) Try.underlying37 rfl (infoRpn _) ?_
            try go_simp
            refine hK _ _ ?_
            clear hK K
            refine wpAny_ready (rs := [3]) (by decide +kernel) (by simp) ?_
            refine AllReady.cons rfl (fun K hK => ?_) AllReady.nil
            (refine step_store rfl 37 (.tmp 3) (.tmp 101) rfl (w.heap.size + 1) 0 rfl 37 _ (rpc p) rfl H.out.r1 (by simp [rpc_len]) (infoRpn _) (rpc_one _) ?_; intro w7 hb7 hk7; have H := hx (H.out.set1 hb7 hk7); clear hb7 hk7)
            try go_simp
            refine hK _ _ ?_
            clear hK K
            refine wpAny_ready (rs := [4]) (by decide +kernel) (by simp) ?_
            refine AllReady.cons rfl (fun K hK => ?_) AllReady.nil
            refine step_assign rfl _ rfl ?_
            try go_simp
            refine hK _ _ ?_
            clear hK K
            refine wpAny_done (by kernel_rfl) ?_ _
            go_wp2
            exact bodyPost_ret (ret_blk3 rfl _ w.heap.size (w.heap.size + 1) _ _ _ _ _ _ _ rfl rfl rfl H.out.r0 H.out.r1 Try.underlying31 rfl (infoPan _) Try.underlying37 rfl (infoRpn _)) rfl ⟨p, rfl, HOK.out.mono (by omega) (by omega), HGP.out, H.out.k⟩
        · refine step_load rfl 37 (.tmp 6) rfl (w.heap.size + 1 + 1 + 1) 0 rfl 37 _ _ _ H.out.e (Part.all _) Try.underlying37 rfl (infoRpn _) ?_
          try go_simp
          refine hK _ _ ?_
          clear hK K
          refine wpAny_ready (rs := [0]) (by decide +kernel) (by simp) ?_
          refine AllReady.cons rfl (fun K hK => ?_) AllReady.nil
          refine step_load rfl 31 (.tmp 5) rfl (w.heap.size + 1 + 1) 0 rfl 31 _ _ _ H.out.b (Part.all _) Try.underlying31 rfl (infoPan _) ?_
          try go_simp
          refine hK _ _ ?_
          clear hK K
          refine wpAny_ready (rs := [2]) (by decide +kernel) (by simp) ?_
          refine AllReady.cons rfl (fun K hK => ?_) AllReady.nil
          (refine step_store rfl 31 (.tmp 2) (.tmp 100) rfl w.heap.size 0 rfl 31 _ (pac p) rfl H.out.r0 (by simp [pac_len]) (infoPan _) (pac_one _) ?_; intro w6 hb6 hk6; have H := hx (H.out.set0 hb6 hk6); clear hb6 hk6)
          try go_simp
          refine hK _ _ ?_
          clear hK K
          refine wpAny_ready (rs := [3]) (by decide +kernel) (by simp) ?_
          refine AllReady.cons rfl (fun K hK => ?_) AllReady.nil
          (refine step_store rfl 37 (.tmp 3) (.tmp 101) rfl (w.heap.size + 1) 0 rfl 37 _ (rpc p) rfl H.out.r1 (by simp [rpc_len]) (infoRpn _) (rpc_one _) ?_; intro w7 hb7 hk7; have H := hx (H.out.set1 hb7 hk7); clear hb7 hk7)
          try go_simp
          refine hK _ _ ?_
          clear hK K
          refine wpAny_ready (rs := [4]) (by decide +kernel) (by simp) ?_
          refine AllReady.cons rfl (fun K hK => ?_) AllReady.nil
          refine step_assign rfl _ rfl ?_
          try go_simp
          refine hK _ _ ?_
          clear hK K
          refine wpAny_done (by kernel_rfl) ?_ _
          go_wp2
          exact bodyPost_ret (ret_blk3 rfl _ w.heap.size (w.heap.size + 1) _ _ _ _ _ _ _ rfl rfl rfl H.out.r0 H.out.r1 Try.underlying31 rfl (infoPan _) Try.underlying37 rfl (infoRpn _)) rfl ⟨p, rfl, HOK.out.mono (by omega) (by omega), HGP.out, H.out.k⟩
end Go.Proofs.Ythkjllphefnphaa
