/- Parts of the proof. -/
import Derived.Test.YtgdofgckjkmhjaaGreatPk04
set_option linter.unusedSimpArgs false
set_option linter.unusedVariables false
namespace Go.Proofs.YtgdofgckjkmhjaaGreat
open Go Go.RowKit
theorem rpc_len2 (p q : Pa) : (rpc p).length = (rpc q).length := by rw [rpc_len, rpc_len]
theorem rsc_len2 (p q : Sn) : (rsc p).length = (rsc q).length := by rw [rsc_len, rsc_len]
theorem infoStn (s : St) : (Tryz.prog.info? 28).map (·.size) = some (stc s).length := infoSt
theorem rmark2 (s : St) (m : Bool) (w : World) (hs : StOk s 1000000) :
    Calls Tryz.prog 66 #[.agg (stc s).toArray, .bool m] w fun e w' => e = .returned (.agg (stc (markS s m)).toArray) ∧ Kept [] w w' := rmark_any s m w hs
theorem rsc_lost (s : Sn) : (rsc s)[68]? = some (.int .i64 s.lost) := rsc_tail s 2 (by omega)
theorem rsc_any (s : Sn) : (rsc s)[0]? = some (.bool s.any) := by simp [rsc]
theorem newLost_any (s : Sn) (n : Nat) (h : s.any = false) : newLost s n = 0 := by unfold newLost; rw [h]; rfl
set_option maxRecDepth 100000 in
set_option maxHeartbeats 12000000 in
theorem rheard_any (n : Nat) (p : Pa) (w : World) (hs : StOk p.s 900000) (hsn : SnOk p.seen 100) (hn : n < 4294967296) :
    Calls Tryz.prog 37 #[.agg (rpc p).toArray, .int .u32 n] w fun e w' => e = .returned (.tuple #[.agg (rpc (heardP p n).1).toArray, .int .i64 (heardP p n).2]) ∧ Kept [] w w' := by
  obtain ⟨Z, hZ, hz⟩ := zeroRp'
  obtain ⟨Y, hY, hy⟩ := zeroRs'
  have b0 := (Blk.new w (rpc p) 34).alloc (.cells Z 34)
  have e0 : Blk ((w.alloc (.cells (rpc p).toArray 34)).alloc (.cells Z 34)) (w.heap.size + 1) (rpc pa0) 34 := by
    have h := Blk.new' (w.alloc (.cells (rpc p).toArray 34)) Z 34
    rw [hZ, show (w.alloc (.cells (rpc p).toArray 34)).heap.size = w.heap.size + 1 by simp] at h
    exact h
  have k0 : Kept [] w ((w.alloc (.cells (rpc p).toArray 34)).alloc (.cells Z 34)) := ((Kept.refl _ _).alloc _).alloc _
  have B0 := hx b0
  have E0 := hx e0
  have K0 := hx k0
  have HY := hx hY
  clear b0 e0 k0 hZ hY
  have HT := hx (fun w => rtake_any n p.seen w hsn hn)
  have hcode := take_code p.seen n
  obtain ⟨c, hc⟩ : ∃ c, c = (takeN p.seen n).2 := ⟨_, rfl⟩
  obtain ⟨s', hs'⟩ : ∃ s', s' = (takeN p.seen n).1 := ⟨_, rfl⟩
  have hok := take_ok p.seen n 100 hsn hn (by omega)
  rw [← hc, ← hs'] at HT
  rw [← hc] at hcode
  rw [← hs'] at hok
  have HC := hx hc
  have HS' := hx hs'
  have HOK := hx (And.intro hs (And.intro hsn hok))
  clear hc hs' hok hs hsn hn
  go_enter Tryz.func37, Tryz.ntmps37
  go_upto_region 1 with fail
  clear hz
  generalize (w.alloc (.cells (rpc p).toArray 34)).alloc (.cells Z 34) = W0 at *
  have c5 := B0.out.part (rpc_seen p) 0 _ (rsc_any p.seen)
  have c73 := B0.out.part (rpc_seen p) 68 _ (rsc_lost p.seen)
  go_region
  clear c5 c73
  go_upto_region 2 with fail
  have B1 := hx (B0.out.drew)
  have E1 := hx (E0.out.drew)
  have K1 := hx (K0.out.drew)
  clear B0 E0 K0
  generalize W0.drew = W1 at *
  go_wp2_with (refine load_part rfl 32 (.tmp 18) rfl w.heap.size 5 rfl 34 _ _ _ B1.out (rpc_seen p) Tryz.underlying32 rfl (infoRsn _) ?_)
  refine (HT.out _).mono ?_
  rintro e w3 ⟨rfl, hk3⟩
  dsimp only
  have B3 := hx (hk3.blk B1.out (by simp))
  have E3 := hx (hk3.blk E1.out (by simp))
  have K3 := hx (K1.out.trans1 hk3)
  have hsz : w.heap.size + 1 < w3.heap.size := E3.out.lt
  clear B1 E1 K1 hk3
  have S3 := hx (show Blk (w3.alloc (.cells Y 32)) w3.heap.size (rsc sn0) 32 by
    have h := Blk.new' w3 Y 32
    rw [HY.out] at h
    exact h)
  have HM2 := hx (show w3.heap.size ≠ w.heap.size ∧ w3.heap.size ≠ w.heap.size + 1 ∧ w.heap.size ≤ w3.heap.size by omega)
  go_upto_region 5 with (first
    | (refine store_blk rfl 32 (.tmp 8) (.tmp 22) rfl w3.heap.size rfl 32 _ _ rfl S3.out (rsc_len2 _ _) (infoRsn _) (rsc_one _) ?_
       intro w4 hs4 hk4
       have S4 := hx hs4
       have B4 := hx (hk4.blk (B3.out.alloc _) (by simpa using Ne.symm HM2.out.1))
       have E4 := hx (hk4.blk (E3.out.alloc _) (by simpa using Ne.symm HM2.out.2.1))
       have K4 := hx (Kept.behind (K3.out.alloc _) hk4 HM2.out.2.2)
       clear hs4 hk4 S3 B3 E3 K3)
    | refine load_blk rfl 32 (.tmp 8) rfl w3.heap.size rfl 32 _ _ S4.out Tryz.underlying32 rfl (infoRsn _) ?_
    | (refine store_part rfl 32 (.tmp 25) (.tmp 24) rfl w.heap.size 5 rfl 34 _ _ rfl B4.out (by rw [rpc_len, rsc_len]; omega) (infoRsn _) (rsc_one _) ?_
       intro w5 hb5 hk5
       rw [rpc_set_seen] at hb5
       have c74 := hb5.cell (i := 74) (v := .int .i64 p.quiet) (rpc_tail _ 0 (by omega))
       have c75 := hb5.cell (i := 75) (v := .int .i64 p.probe) (rpc_tail _ 1 (by omega))
       have c76 := hb5.cell (i := 76) (v := .int .i64 p.gap) (rpc_tail _ 2 (by omega))
       have hf := hb5.free
       have B6 := hx (show Blk _ w.heap.size (rpc ⟨p.s, s', 0, 0, 0, p.next⟩) 34 from ((Blk.rquiet (s := p.s) (sn := s') (q := p.quiet) (r := p.probe) (g := p.gap) (n := p.next) hb5 0).rprobe 0).rgap 0)
       have E6 := hx ((((hk5.blk E4.out (by simp)).set_ne (a := ⟨w.heap.size, 74, none⟩) (by simp) (.int .i64 0)).set_ne (a := ⟨w.heap.size, 75, none⟩) (by simp) (.int .i64 0)).set_ne (a := ⟨w.heap.size, 76, none⟩) (by simp) (.int .i64 0))
       have S6 := hx ((((hk5.blk S4.out (by simpa using HM2.out.1)).set_ne (a := ⟨w.heap.size, 74, none⟩) (by simpa using HM2.out.1) (.int .i64 0)).set_ne (a := ⟨w.heap.size, 75, none⟩) (by simpa using HM2.out.1) (.int .i64 0)).set_ne (a := ⟨w.heap.size, 76, none⟩) (by simpa using HM2.out.1) (.int .i64 0))
       have K6 := hx ((((Kept.behind K4.out hk5 (by omega)).setCell (p := ⟨w.heap.size, 74, none⟩) (.inr (by simp)) (.int .i64 0)).setCell (p := ⟨w.heap.size, 75, none⟩) (.inr (by simp)) (.int .i64 0)).setCell (p := ⟨w.heap.size, 76, none⟩) (.inr (by simp)) (.int .i64 0))
       clear hb5 hk5)
    | fail)
  clear c74 c75 c76 hf hy
  generalize (World.setCell _ ⟨w.heap.size, 76, none⟩ (.int .i64 0)) = W6 at *
  by_cases h0 : c = 0
  · have z := hx (show heardP p n = (⟨markS (markK p.s (newLost p.seen n)) false, s', 0, 0, 0, p.next⟩, 0) by unfold heardP; rw [if_pos (by rw [← HC.out]; exact h0), HS'.out])
    have l1 : 0 ≤ p.seen.lost := HOK.out.2.1.lost.1
    have l2 : p.seen.lost.toNat ≤ 1000000000000 := by have := HOK.out.2.1.lost.2; omega
    have l3 : 0 ≤ s'.lost := HOK.out.2.2.lost.1
    have l4 : s'.lost.toNat ≤ 1000000000000 := by have := HOK.out.2.2.lost.2; omega
    have HB2 := hx (show p.seen.any = true → p.seen.lost ≤ s'.lost by intro h; rw [HS'.out]; exact lost_le _ _ h)
    have HNL := hx (show newLost p.seen n = if p.seen.any then (min (s'.lost - p.seen.lost) 64).toNat else 0 by rw [HS'.out]; rfl)
    have HR2 := hx (show p.seen.any = true → ((newLost p.seen n : Nat) : Int) = min (s'.lost - p.seen.lost) 64 by intro h; rw [HNL.out, if_pos h]; have := HB2.out h; omega)
    clear hcode
    subst h0
    have B4 := B6
    have E4 := E6
    have S4 := S6
    have K4 := K6
    clear B6 E6 S6 K6
    go_wp2
    go_loopw [10] (fun iv wr => ∃ i : Nat, i ≤ newLost p.seen n ∧ iv = .int .i64 i ∧ Blk wr w.heap.size (rpc ⟨markK p.s i, s', 0, 0, 0, p.next⟩) 34 ∧ Blk wr (w.heap.size + 1) (rpc pa0) 34 ∧ Blk wr w3.heap.size (rsc s') 32 ∧ Kept [] w wr) (fun iv _ => newLost p.seen n - (intOf iv).toNat)
    case atStart => exact ⟨0, by omega, rfl, B4.out, E4.out, S4.out, K4.out⟩
    case round =>
      clear B4 E4 S4 K4
      obtain ⟨i, hi, rfl, hbr, her, hsr, hkr⟩ := hrel
      have hl64 := newLost_le p.seen n
      have hmk : StOk (markK p.s i) 1000000 := (markK_ok p.s i _ HOK.out.1).mono (by omega)
      have HM := hx (fun m w => rmark2 (markK p.s i) m w hmk)
      have c68 := hsr.cell (rsc_lost s')
      have BR := hx hbr
      have ER := hx her
      have SR := hx hsr
      have KR := hx hkr
      clear hbr her hsr hkr
      by_cases hlt : i < newLost p.seen n
      · have hany : p.seen.any = true := by
          cases h : p.seen.any
          · rw [newLost_any _ _ h] at hlt; omega
          · rfl
        have hiR : (i : Int) < s'.lost - p.seen.lost := by have := HR2.out hany; omega
        have hi64 : (i : Int) < 64 := by omega
        rw [hany]
        go_wp2_with (refine load_part rfl 28 (.tmp 48) rfl w.heap.size 0 rfl 34 _ _ _ BR.out (rpc_s _) Tryz.underlying28 rfl (infoStn _) ?_)
        refine (HM.out true _).mono ?_
        rintro e w5 ⟨rfl, hk5⟩
        have b5 := hx (hk5.blk BR.out (by simp))
        have e5 := hx (hk5.blk ER.out (by simp))
        have s5 := hx (hk5.blk SR.out (by simp))
        have k5 := hx (KR.out.trans0 hk5)
        clear BR ER SR KR hk5 c68
        dsimp only
        go_wp2_with (refine store_part rfl 28 (.tmp 51) (.tmp 50) rfl w.heap.size 0 rfl 34 _ _ rfl b5.out (by rw [rpc_len]; simp [stc]) (infoStn _) (stc_one _) ?_
                     intro w6 hb6 hk6)
        rw [rpc_set_s] at hb6
        have e6 := hx (hk6.blk e5.out (by simp))
        have s6 := hx (hk6.blk s5.out (by simpa using HM2.out.1))
        have k6 := hx (Kept.behind k5.out hk6 (by omega))
        have b6 := hx hb6
        clear hb6 hk6
        go_roundw
        case rel => exact ⟨i + 1, by omega, by go_num, b6.out, e6.out, s6.out, k6.out⟩
        case measure => simp [intOf] <;> omega
      · obtain rfl : i = newLost p.seen n := by omega
        have HL := hx hlt
        clear hlt
        cases hany : p.seen.any
        · skip
          go_wp2_with (refine load_part rfl 28 (.tmp 52) rfl w.heap.size 0 rfl 34 _ _ _ BR.out (rpc_s _) Tryz.underlying28 rfl (infoStn _) ?_)
          refine (HM.out false _).mono ?_
          rintro e w5 ⟨rfl, hk5⟩
          have b5 := hx (hk5.blk BR.out (by simp))
          have e5 := hx (hk5.blk ER.out (by simp))
          have k5 := hx (KR.out.trans0 hk5)
          clear BR ER SR KR hk5 c68
          dsimp only
          go_wp2_with (first
            | (refine store_part rfl 28 (.tmp 55) (.tmp 54) rfl w.heap.size 0 rfl 34 _ _ rfl b5.out (by rw [rpc_len]; simp [stc]) (infoStn _) (stc_one _) ?_
               intro w6 hb6 hk6
               rw [rpc_set_s] at hb6
               have E2 := hx (hk6.blk e5.out (by simp))
               have K := hx (Kept.behind k5.out hk6 (by omega))
               have E := hx hb6
               clear hb6 hk6)
            | refine load_blk rfl 34 (.tmp 2) rfl w.heap.size rfl 34 _ _ E.out Tryz.underlying34 rfl (infoRpn _) ?_
            | (refine store_blk rfl 34 (.tmp 4) (.tmp 56) rfl (w.heap.size + 1) rfl 34 _ _ rfl E2.out (rpc_len2 _ _) (infoRpn _) (rpc_one _) ?_; intro w7 hb7 hk7))
          exact bodyPost_ret (ret_blk2 rfl _ (w.heap.size + 1) _ _ _ _ rfl rfl hb7 Tryz.underlying34 rfl (infoRpn _)) rfl ⟨by rw [z.out]; rfl, Kept.behind K.out hk7 (by omega)⟩
        · by_cases hiD : ((newLost p.seen n : Nat) : Int) < s'.lost - p.seen.lost
          · have hi64 : ¬ (((newLost p.seen n : Nat) : Int) < 64) := by have := HR2.out hany; omega
            generalize newLost p.seen n = N at *
            go_wp2_with (refine load_part rfl 28 (.tmp 52) rfl w.heap.size 0 rfl 34 _ _ _ BR.out (rpc_s _) Tryz.underlying28 rfl (infoStn _) ?_)
            refine (HM.out false _).mono ?_
            rintro e w5 ⟨rfl, hk5⟩
            have b5 := hx (hk5.blk BR.out (by simp))
            have e5 := hx (hk5.blk ER.out (by simp))
            have k5 := hx (KR.out.trans0 hk5)
            clear BR ER SR KR hk5 c68
            dsimp only
            go_wp2_with (first
              | (refine store_part rfl 28 (.tmp 55) (.tmp 54) rfl w.heap.size 0 rfl 34 _ _ rfl b5.out (by rw [rpc_len]; simp [stc]) (infoStn _) (stc_one _) ?_
                 intro w6 hb6 hk6
                 rw [rpc_set_s] at hb6
                 have E2 := hx (hk6.blk e5.out (by simp))
                 have K := hx (Kept.behind k5.out hk6 (by omega))
                 have E := hx hb6
                 clear hb6 hk6)
              | refine load_blk rfl 34 (.tmp 2) rfl w.heap.size rfl 34 _ _ E.out Tryz.underlying34 rfl (infoRpn _) ?_
              | (refine store_blk rfl 34 (.tmp 4) (.tmp 56) rfl (w.heap.size + 1) rfl 34 _ _ rfl E2.out (rpc_len2 _ _) (infoRpn _) (rpc_one _) ?_; intro w7 hb7 hk7))
            exact bodyPost_ret (ret_blk2 rfl _ (w.heap.size + 1) _ _ _ _ rfl rfl hb7 Tryz.underlying34 rfl (infoRpn _)) rfl ⟨by rw [z.out]; rfl, Kept.behind K.out hk7 (by omega)⟩
          · generalize newLost p.seen n = N at *
            go_wp2_with (refine load_part rfl 28 (.tmp 52) rfl w.heap.size 0 rfl 34 _ _ _ BR.out (rpc_s _) Tryz.underlying28 rfl (infoStn _) ?_)
            refine (HM.out false _).mono ?_
            rintro e w5 ⟨rfl, hk5⟩
            have b5 := hx (hk5.blk BR.out (by simp))
            have e5 := hx (hk5.blk ER.out (by simp))
            have k5 := hx (KR.out.trans0 hk5)
            clear BR ER SR KR hk5 c68
            dsimp only
            go_wp2_with (first
              | (refine store_part rfl 28 (.tmp 55) (.tmp 54) rfl w.heap.size 0 rfl 34 _ _ rfl b5.out (by rw [rpc_len]; simp [stc]) (infoStn _) (stc_one _) ?_
                 intro w6 hb6 hk6
                 rw [rpc_set_s] at hb6
                 have E2 := hx (hk6.blk e5.out (by simp))
                 have K := hx (Kept.behind k5.out hk6 (by omega))
                 have E := hx hb6
                 clear hb6 hk6)
              | refine load_blk rfl 34 (.tmp 2) rfl w.heap.size rfl 34 _ _ E.out Tryz.underlying34 rfl (infoRpn _) ?_
              | (refine store_blk rfl 34 (.tmp 4) (.tmp 56) rfl (w.heap.size + 1) rfl 34 _ _ rfl E2.out (rpc_len2 _ _) (infoRpn _) (rpc_one _) ?_; intro w7 hb7 hk7))
            exact bodyPost_ret (ret_blk2 rfl _ (w.heap.size + 1) _ _ _ _ rfl rfl hb7 Tryz.underlying34 rfl (infoRpn _)) rfl ⟨by rw [z.out]; rfl, Kept.behind K.out hk7 (by omega)⟩
  · have z := hx (show heardP p n = (⟨p.s, s', 0, 0, 0, p.next⟩, c) by unfold heardP; rw [if_neg (by rw [← HC.out]; exact h0), HS'.out, HC.out])
    have h1 : (c != 0) = true := by simp [bne, h0]
    have E := B6
    have E2 := E6
    have K := K6
    clear h0 B6 E6 K6 S6
    go_wp2_with (first
      | refine load_blk rfl 34 (.tmp 2) rfl w.heap.size rfl 34 _ _ E.out Tryz.underlying34 rfl (infoRpn _) ?_
      | (refine store_blk rfl 34 (.tmp 4) (.tmp 31) rfl (w.heap.size + 1) rfl 34 _ _ rfl E2.out (rpc_len2 _ _) (infoRpn _) (rpc_one _) ?_; intro w5 hb5 hk5))
    exact bodyPost_ret (ret_blk2 rfl _ (w.heap.size + 1) _ _ _ _ rfl rfl hb5 Tryz.underlying34 rfl (infoRpn _)) rfl ⟨by rw [z.out]; rfl, Kept.behind K.out hk5 (by omega)⟩
end Go.Proofs.YtgdofgckjkmhjaaGreat
