/- Parts of the proof. -/
import Derived.Test.YtgdofgckjkmhjaaGreatPk04
set_option linter.unusedSimpArgs false
set_option linter.unusedVariables false
namespace Go.Proofs.YtgdofgckjkmhjaaGreat
open Go Go.RowKit
set_option maxRecDepth 100000 in
set_option maxHeartbeats 30000000 in
theorem rtick_any (p : Pa) (w : World) (hq0 : 0 ≤ p.quiet) (hq1 : p.quiet ≤ 1000000) (hg0 : 0 ≤ p.gap) (hg1 : p.gap ≤ 80) (hr0 : 0 ≤ p.probe) (hr1 : p.probe ≤ 80) :
    Calls Tryz.prog 57 #[.agg (rpc p).toArray] w fun e w' => e = .returned (.tuple #[.agg (rpc (tickP p).1).toArray, .bool (tickP p).2]) ∧ Kept [] w w' := by
  obtain ⟨Z, hZ, hz⟩ := zeroRp'
  have b0 := (Blk.new w (rpc p) 34).alloc (.cells Z 34)
  have e0 : Blk ((w.alloc (.cells (rpc p).toArray 34)).alloc (.cells Z 34)) (w.heap.size + 1) (rpc pa0) 34 := by
    have h := Blk.new' (w.alloc (.cells (rpc p).toArray 34)) Z 34
    rw [hZ, show (w.alloc (.cells (rpc p).toArray 34)).heap.size = w.heap.size + 1 by simp] at h
    exact h
  have k0 : Kept [] w ((w.alloc (.cells (rpc p).toArray 34)).alloc (.cells Z 34)) := ((Kept.refl _ _).alloc _).alloc _
  have B0 := hx b0
  have E0 := hx e0
  have K0 := hx k0
  clear b0 e0 k0 hZ
  go_enter Tryz.func57, Tryz.ntmps57
  go_upto_region 1 with fail
  clear hz
  generalize (w.alloc (.cells (rpc p).toArray 34)).alloc (.cells Z 34) = W0 at *
  have c74 := B0.out.cell (i := 74) (v := .int .i64 p.quiet) (rpc_tail p 0 (by omega))
  have hf := B0.out.free
  have b1 : Blk _ w.heap.size (rpc ⟨p.s, p.seen, p.quiet + 1, p.probe, p.gap, p.next⟩) 34 := Blk.rquiet (s := p.s) (sn := p.seen) (q := p.quiet) (r := p.probe) (g := p.gap) (n := p.next) B0.out (p.quiet + 1)
  have B1 := hx b1
  have E1 := hx (E0.out.set_ne (a := ⟨w.heap.size, 74, none⟩) (by simp) (.int .i64 (p.quiet + 1)))
  have K1 := hx (K0.out.setCell (p := ⟨w.heap.size, 74, none⟩) (.inr (by simp)) (.int .i64 (p.quiet + 1)))
  clear b1 B0 E0 K0
  go_upto_region 2 with fail
  clear c74 hf
  generalize W0.setCell ⟨w.heap.size, 74, none⟩ (.int .i64 (p.quiet + 1)) = W1 at *
  go_wp2_with (refine load_blk rfl 34 (.tmp 1) rfl w.heap.size rfl 34 _ _ B1.out Tryz.underlying34 rfl (infoRpn _) ?_)
  refine (rstate_any _ _).mono ?_
  rintro e w3 ⟨rfl, hk3⟩
  dsimp only
  have b3 := hk3.blk B1.out (by simp)
  have e3 := hk3.blk E1.out (by simp)
  have k3 := K1.out.trans1 hk3
  have c75 := b3.cell (i := 75) (v := .int .i64 p.probe) (rpc_tail _ 1 (by omega))
  have c76 := b3.cell (i := 76) (v := .int .i64 p.gap) (rpc_tail _ 2 (by omega))
  have hf := b3.free
  clear B1 E1 K1 hk3
  by_cases h1 : p.quiet + 1 < 20
  · rw [stateI_0 _ h1]
    have z := hx (show tickP p = (⟨p.s, p.seen, p.quiet + 1, 0, 0, p.next⟩, false) by unfold tickP; rw [if_pos h1])
    have E := hx (show Blk _ w.heap.size (rpc ⟨p.s, p.seen, p.quiet + 1, 0, 0, p.next⟩) 34 from ((b3.rprobe (0)).rgap (0)))
    have E2 := hx ((e3.set_ne (a := ⟨w.heap.size, 75, none⟩) (by simp) (.int .i64 (0))).set_ne (a := ⟨w.heap.size, 76, none⟩) (by simp) (.int .i64 (0)))
    have K := hx ((k3.setCell (p := ⟨w.heap.size, 75, none⟩) (.inr (by simp)) (.int .i64 (0))).setCell (p := ⟨w.heap.size, 76, none⟩) (.inr (by simp)) (.int .i64 (0)))
    clear b3 e3 k3 
    go_wp2_with (first
      | refine load_blk rfl 34 (.tmp 1) rfl w.heap.size rfl 34 _ _ E.out Tryz.underlying34 rfl (infoRpn _) ?_
      | (refine store_blk rfl 34 (.tmp 2) (.tmp 14) rfl (w.heap.size + 1) rfl 34 _ _ rfl E2.out (by rw [rpc_len, rpc_len]) (infoRpn _) (rpc_one _) ?_; intro w5 hb5 hk5))
    exact bodyPost_ret (ret_blk2 rfl _ (w.heap.size + 1) _ _ _ _ rfl rfl hb5 Tryz.underlying34 rfl (infoRpn _)) rfl ⟨by rw [z.out]; rfl, Kept.behind K.out hk5 (by omega)⟩
  · have s1 := stateI_1 (p.quiet + 1) (by omega)
    generalize stateI (p.quiet + 1) = y at *
    by_cases h2 : p.gap = 0
    · have H2 := hx h2
      rw [h2] at c76
      clear h2
      have b4 := (b3.rgap 5).rprobe 1
      have e4 := (e3.set_ne (a := ⟨w.heap.size, 76, none⟩) (by simp) (.int .i64 5)).set_ne (a := ⟨w.heap.size, 75, none⟩) (by simp) (.int .i64 1)
      have k4 := (k3.setCell (p := ⟨w.heap.size, 76, none⟩) (.inr (by simp)) (.int .i64 5)).setCell (p := ⟨w.heap.size, 75, none⟩) (.inr (by simp)) (.int .i64 1)
      have B4 := hx b4
      have E4 := hx e4
      have K4 := hx k4
      clear b3 e3 k3 b4 e4 k4
      go_upto_region 7 with fail
      clear c75 c76 hf
      generalize ((w3.setCell ⟨w.heap.size, 76, none⟩ (.int .i64 5)).setCell ⟨w.heap.size, 75, none⟩ (.int .i64 1)) = W4 at *
      have b3 := B4.out
      have e3 := E4.out
      have k3 := K4.out
      have c75 := b3.cell (i := 75) (v := .int .i64 1) (rpc_tail _ 1 (by omega))
      have c76 := b3.cell (i := 76) (v := .int .i64 5) (rpc_tail _ 2 (by omega))
      have hf := b3.free
      clear B4 E4 K4
      have z := hx (show tickP p = (⟨p.s, p.seen, p.quiet + 1, 5, 10, p.next⟩, true) by unfold tickP; rw [if_neg h1, if_pos H2.out])
      have E := hx (show Blk _ w.heap.size (rpc ⟨p.s, p.seen, p.quiet + 1, 5, 10, p.next⟩) 34 from (((b3.rprobe (0)).rprobe (5)).rgap (10)))
      have E2 := hx (((e3.set_ne (a := ⟨w.heap.size, 75, none⟩) (by simp) (.int .i64 (0))).set_ne (a := ⟨w.heap.size, 75, none⟩) (by simp) (.int .i64 (5))).set_ne (a := ⟨w.heap.size, 76, none⟩) (by simp) (.int .i64 (10)))
      have K := hx (((k3.setCell (p := ⟨w.heap.size, 75, none⟩) (.inr (by simp)) (.int .i64 (0))).setCell (p := ⟨w.heap.size, 75, none⟩) (.inr (by simp)) (.int .i64 (5))).setCell (p := ⟨w.heap.size, 76, none⟩) (.inr (by simp)) (.int .i64 (10)))
      clear b3 e3 k3 
      go_wp2_with (first
        | refine load_blk rfl 34 (.tmp 1) rfl w.heap.size rfl 34 _ _ E.out Tryz.underlying34 rfl (infoRpn _) ?_
        | (refine store_blk rfl 34 (.tmp 2) (.tmp 36) rfl (w.heap.size + 1) rfl 34 _ _ rfl E2.out (by rw [rpc_len, rpc_len]) (infoRpn _) (rpc_one _) ?_; intro w5 hb5 hk5))
      exact bodyPost_ret (ret_blk2 rfl _ (w.heap.size + 1) _ _ _ _ rfl rfl hb5 Tryz.underlying34 rfl (infoRpn _)) rfl ⟨by rw [z.out]; rfl, Kept.behind K.out hk5 (by omega)⟩
    · have s2 : (p.gap == 0) = false := by rw [beq_eq_false_iff_ne]; exact h2
      by_cases h3 : 1 < p.probe
      · skip
        have z := hx (show tickP p = (⟨p.s, p.seen, p.quiet + 1, p.probe - 1, p.gap, p.next⟩, false) by unfold tickP; rw [if_neg h1, if_neg h2, if_pos h3])
        have E := hx (show Blk _ w.heap.size (rpc ⟨p.s, p.seen, p.quiet + 1, p.probe - 1, p.gap, p.next⟩) 34 from (b3.rprobe (p.probe - 1)))
        have E2 := hx (e3.set_ne (a := ⟨w.heap.size, 75, none⟩) (by simp) (.int .i64 (p.probe - 1)))
        have K := hx (k3.setCell (p := ⟨w.heap.size, 75, none⟩) (.inr (by simp)) (.int .i64 (p.probe - 1)))
        clear b3 e3 k3 
        go_wp2_with (first
          | refine load_blk rfl 34 (.tmp 1) rfl w.heap.size rfl 34 _ _ E.out Tryz.underlying34 rfl (infoRpn _) ?_
          | (refine store_blk rfl 34 (.tmp 2) (.tmp 27) rfl (w.heap.size + 1) rfl 34 _ _ rfl E2.out (by rw [rpc_len, rpc_len]) (infoRpn _) (rpc_one _) ?_; intro w5 hb5 hk5))
        exact bodyPost_ret (ret_blk2 rfl _ (w.heap.size + 1) _ _ _ _ rfl rfl hb5 Tryz.underlying34 rfl (infoRpn _)) rfl ⟨by rw [z.out]; rfl, Kept.behind K.out hk5 (by omega)⟩
      · by_cases h4 : 80 < 2 * p.gap
        · skip
          have z := hx (show tickP p = (⟨p.s, p.seen, p.quiet + 1, p.gap, 80, p.next⟩, true) by unfold tickP; rw [if_neg h1, if_neg h2, if_neg h3, show min (2 * p.gap) 80 = 80 by omega])
          have E := hx (show Blk _ w.heap.size (rpc ⟨p.s, p.seen, p.quiet + 1, p.gap, 80, p.next⟩) 34 from (((b3.rprobe (p.probe - 1)).rprobe (p.gap)).rgap (80)))
          have E2 := hx (((e3.set_ne (a := ⟨w.heap.size, 75, none⟩) (by simp) (.int .i64 (p.probe - 1))).set_ne (a := ⟨w.heap.size, 75, none⟩) (by simp) (.int .i64 (p.gap))).set_ne (a := ⟨w.heap.size, 76, none⟩) (by simp) (.int .i64 (80)))
          have K := hx (((k3.setCell (p := ⟨w.heap.size, 75, none⟩) (.inr (by simp)) (.int .i64 (p.probe - 1))).setCell (p := ⟨w.heap.size, 75, none⟩) (.inr (by simp)) (.int .i64 (p.gap))).setCell (p := ⟨w.heap.size, 76, none⟩) (.inr (by simp)) (.int .i64 (80)))
          clear b3 e3 k3 
          go_wp2_with (first
            | refine load_blk rfl 34 (.tmp 1) rfl w.heap.size rfl 34 _ _ E.out Tryz.underlying34 rfl (infoRpn _) ?_
            | (refine store_blk rfl 34 (.tmp 2) (.tmp 36) rfl (w.heap.size + 1) rfl 34 _ _ rfl E2.out (by rw [rpc_len, rpc_len]) (infoRpn _) (rpc_one _) ?_; intro w5 hb5 hk5))
          exact bodyPost_ret (ret_blk2 rfl _ (w.heap.size + 1) _ _ _ _ rfl rfl hb5 Tryz.underlying34 rfl (infoRpn _)) rfl ⟨by rw [z.out]; rfl, Kept.behind K.out hk5 (by omega)⟩
        · skip
          have z := hx (show tickP p = (⟨p.s, p.seen, p.quiet + 1, p.gap, 2 * p.gap, p.next⟩, true) by unfold tickP; rw [if_neg h1, if_neg h2, if_neg h3, show min (2 * p.gap) 80 = 2 * p.gap by omega])
          have E := hx (show Blk _ w.heap.size (rpc ⟨p.s, p.seen, p.quiet + 1, p.gap, 2 * p.gap, p.next⟩) 34 from (((b3.rprobe (p.probe - 1)).rprobe (p.gap)).rgap (2 * p.gap)))
          have E2 := hx (((e3.set_ne (a := ⟨w.heap.size, 75, none⟩) (by simp) (.int .i64 (p.probe - 1))).set_ne (a := ⟨w.heap.size, 75, none⟩) (by simp) (.int .i64 (p.gap))).set_ne (a := ⟨w.heap.size, 76, none⟩) (by simp) (.int .i64 (2 * p.gap)))
          have K := hx (((k3.setCell (p := ⟨w.heap.size, 75, none⟩) (.inr (by simp)) (.int .i64 (p.probe - 1))).setCell (p := ⟨w.heap.size, 75, none⟩) (.inr (by simp)) (.int .i64 (p.gap))).setCell (p := ⟨w.heap.size, 76, none⟩) (.inr (by simp)) (.int .i64 (2 * p.gap)))
          clear b3 e3 k3 
          go_wp2_with (first
            | refine load_blk rfl 34 (.tmp 1) rfl w.heap.size rfl 34 _ _ E.out Tryz.underlying34 rfl (infoRpn _) ?_
            | (refine store_blk rfl 34 (.tmp 2) (.tmp 36) rfl (w.heap.size + 1) rfl 34 _ _ rfl E2.out (by rw [rpc_len, rpc_len]) (infoRpn _) (rpc_one _) ?_; intro w5 hb5 hk5))
          exact bodyPost_ret (ret_blk2 rfl _ (w.heap.size + 1) _ _ _ _ rfl rfl hb5 Tryz.underlying34 rfl (infoRpn _)) rfl ⟨by rw [z.out]; rfl, Kept.behind K.out hk5 (by omega)⟩
end Go.Proofs.YtgdofgckjkmhjaaGreat
