import Derived.Test.YtpedenaaiinakaaWireT
namespace Go.Proofs.Ytpedenaaiinakaa
open Go Go.RowKit
attribute [local go_sem ↓] exec_Dg
attribute [local go_sem] goodPtr_at rowAt_at
theorem fld_skip (x n : Nat) (b : List UInt8) (i k : Nat) (h : n ≤ i) : fld (byts x n ++ b) i k = fld b (i - n) k := by
  unfold fld
  rw [List.drop_append, List.drop_of_length_le (by rw [byts_len]; exact h), byts_len, List.nil_append]
theorem fld_head (x n : Nat) (b : List UInt8) : fld (byts x n ++ b) 0 n = x % 256 ^ n := by
  unfold fld
  rw [List.drop_zero, List.take_left' (byts_len x n), beg_byts]
theorem rdD_plain (d : Dg) (hf : DgFits d) (hc : chk d = 0) : rdD (plainL d) = d ∧ fld (plainL d) 0 2 = 17003 ∧ fld (plainL d) 4 4 = d.sess ∧ fld (plainL d) 27 2 = (plainL d).length - 29 := by
  obtain ⟨g1, g2, g3, g4, g5, g6⟩ := good_of d hc
  obtain ⟨_, _, h1, h2, h3, h4, h5⟩ := hf
  have hdrop : (plainL d).drop 29 = d.data := by
    unfold plainL
    rw [List.drop_append, List.drop_of_length_le (by rw [headL_len]; omega), headL_len]
    simp
  have hlen : (plainL d).length = 29 + d.data.length := by unfold plainL; rw [List.length_append, headL_len]
  have e0 : fld (plainL d) 0 2 = 17003 % 256 ^ 2 := by simp only [plainL, headL, List.append_assoc]; exact fld_head _ _ _
  have e1 : fld (plainL d) 2 1 = d.kind.toNat % 256 ^ 1 := by simp only [plainL, headL, List.append_assoc]; rw [fld_skip _ _ _ _ _ (by omega)]; exact fld_head _ _ _
  have e2 : fld (plainL d) 3 1 = d.path.toNat % 256 ^ 1 := by simp only [plainL, headL, List.append_assoc]; rw [fld_skip _ _ _ _ _ (by omega), fld_skip _ _ _ _ _ (by omega)]; exact fld_head _ _ _
  have e3 : fld (plainL d) 4 4 = d.sess % 256 ^ 4 := by simp only [plainL, headL, List.append_assoc]; iterate 3 rw [fld_skip _ _ _ _ _ (by omega)]
                                                        exact fld_head _ _ _
  have e4 : fld (plainL d) 8 4 = d.seq % 256 ^ 4 := by simp only [plainL, headL, List.append_assoc]; iterate 4 rw [fld_skip _ _ _ _ _ (by omega)]
                                                       exact fld_head _ _ _
  have e5 : fld (plainL d) 12 4 = d.tick % 256 ^ 4 := by simp only [plainL, headL, List.append_assoc]; iterate 5 rw [fld_skip _ _ _ _ _ (by omega)]
                                                         exact fld_head _ _ _
  have e6 : fld (plainL d) 16 4 = d.a % 256 ^ 4 := by simp only [plainL, headL, List.append_assoc]; iterate 6 rw [fld_skip _ _ _ _ _ (by omega)]
                                                      exact fld_head _ _ _
  have e7 : fld (plainL d) 20 4 = d.b % 256 ^ 4 := by simp only [plainL, headL, List.append_assoc]; iterate 7 rw [fld_skip _ _ _ _ _ (by omega)]
                                                      exact fld_head _ _ _
  have e8 : fld (plainL d) 24 1 = d.k.toNat % 256 ^ 1 := by simp only [plainL, headL, List.append_assoc]; iterate 8 rw [fld_skip _ _ _ _ _ (by omega)]
                                                            exact fld_head _ _ _
  have e9 : fld (plainL d) 25 1 = d.m.toNat % 256 ^ 1 := by simp only [plainL, headL, List.append_assoc]; iterate 9 rw [fld_skip _ _ _ _ _ (by omega)]
                                                            exact fld_head _ _ _
  have e10 : fld (plainL d) 26 1 = d.index.toNat % 256 ^ 1 := by simp only [plainL, headL, List.append_assoc]; iterate 10 rw [fld_skip _ _ _ _ _ (by omega)]
                                                                 exact fld_head _ _ _
  have e11 : fld (plainL d) 27 2 = d.data.length % 256 ^ 2 := by simp only [plainL, headL, List.append_assoc]; iterate 11 rw [fld_skip _ _ _ _ _ (by omega)]
                                                                 exact fld_head _ _ _
  have p1 : (256 : Nat) ^ 1 = 256 := rfl
  have p2 : (256 : Nat) ^ 2 = 65536 := rfl
  have p4 : (256 : Nat) ^ 4 = 4294967296 := rfl
  rw [p1] at e1 e2 e8 e9 e10
  rw [p2] at e0 e11
  rw [p4] at e3 e4 e5 e6 e7
  refine ⟨?_, by rw [e0], by rw [e3]; omega, by rw [e11, hlen]; omega⟩
  obtain ⟨kind, sess, seq, path, tick, a, b, k, m, index, data⟩ := d
  unfold rdD
  rw [hdrop, e1, e2, e3, e4, e5, e6, e7, e8, e9, e10]
  simp only at *
  simp only [Dg.mk.injEq, and_true]
  omega
theorem back_own (d : Dg) (hf : DgFits d) (hc : chk d = 0) (s : Nat) : decE s (encL d) = (if s = d.sess then 0 else 71) ∧ decD s (encL d) = (if s = d.sess then d else dg0) := by
  have hl := encL_good d hc
  have hg := (good_of d hc).len
  obtain ⟨r1, r2, r3, r4⟩ := rdD_plain d hf hc
  have hs : encL d = sealed (plainL d) := by unfold encL; rw [if_pos hc]
  have hpl : (plainL d).length = 29 + d.data.length := by unfold plainL; rw [List.length_append, headL_len]
  have ht : (encL d).take ((encL d).length - 4) = plainL d := by
    rw [hl, hs]
    exact List.take_left' (by rw [hpl]; omega)
  have hE : decE s (encL d) = opE s (plainL d) := by
    unfold decE
    rw [if_neg (by omega), if_neg (by omega), ht, if_pos hs.symm]
  have hO : opE s (plainL d) = if s = d.sess then 0 else 71 := by
    unfold opE
    rw [r2, r3, r4, r1, hc]
    by_cases h : s = d.sess
    · rw [if_neg (by omega), if_pos h]; simp
    · rw [if_pos (by omega), if_neg h]
  refine ⟨by rw [hE, hO], ?_⟩
  unfold decD
  rw [hE, hO, ht, r1]
  by_cases h : s = d.sess
  · simp [h]
  · simp [h]
theorem chk_vals (d : Dg) : chk d = 0 ∨ chk d = 72 ∨ chk d = 73 := by
  unfold chk
  split
  · exact .inr (.inl rfl)
  · split
    · exact .inr (.inr rfl)
    · exact .inl rfl
set_option maxRecDepth 100000 in
set_option maxHeartbeats 3200000 in
theorem law_back (d : Dg) (p : Option Addr) (c : Nat) (s : Nat) (w : World) (hd : Bts w p d.data.length c d.data) (hf : DgFits d) (hs : s < 4294967296) :
    Calls Try.prog 7 #[.agg (dgl d p c).toArray, .int .u32 s] w fun e w' => e = .returned (.bool true) ∧ Kept [] w w' := by
  have hz := zeroDg
  have hb := Blk.new w (dgl d p c) 25
  have hk0 : Kept [] w (w.alloc (.cells (dgl d p c).toArray 25)) := (Kept.refl _ _).alloc _
  have hb' := Lib.hid hb
  have hd' := Lib.hid hd
  have hf' := Lib.hid hf
  have hk0' := Lib.hid hk0
  clear hb hd hf hk0
  go_enter Try.func7, Try.ntmps7
  go_wp2_with fail
  refine (wawake_any _).mono ?_
  rintro e w1 ⟨rfl, hk1⟩
  go_wp2_with fail
  refine (new_any _).mono ?_
  rintro e w2 ⟨rfl, ht2, hk2⟩
  have hkb := hk1.trans0 hk2
  have hb2 := hkb.blk hb'.out (by simp)
  have hk02 := hk0'.out.trans0 hkb
  have r1 := hb2.row
  have r2 : hasRow w2 w.heap.size 11 = true := hb2.has
  have HB2 := Lib.hid hb2
  clear hk1 hk2 hkb hb2
  go_wp2_with fail
  refine (encode_any w1.heap.size d p d.data.length c _ (hd'.out.kept hk02) hf'.out ht2).mono ?_
  rintro e w3 ⟨v, rfl, ho, hk3⟩
  obtain ⟨ae, ce, rfl, hbe⟩ := ho.bts
  have ht3 := hk3.blk ht2 (by simp)
  have hb3 := hk3.blk HB2.out (by simp)
  have hk03 := hk02.trans0 hk3
  clear r1 r2 ho ht2 hk02 hk3 HB2
  by_cases hc : chk d = 0
  · have n0 : (chk d != 0) = false := by rw [hc]; rfl
    have hbk := Lib.hid (back_own d hf'.out hc)
    have hc' := Lib.hid hc
    have cs := hb3.cell (show (dgl d p c)[1]? = some (.int .u32 d.sess) from rfl)
    have e0 : (0 : Int) = 0 := rfl
    have HD := decode_any w1.heap.size d.sess ae _ ce (encL d) w3 hbe ht3 hf'.out.sess
    rw [(hbk.out d.sess).1, (hbk.out d.sess).2, if_pos rfl, if_pos rfl] at HD
    have HD' := Lib.hid HD
    clear hc HD e0
    go_wp2_with fail
    refine HD'.out.mono ?_
    rintro e w4 ⟨p4, c4, rfl, hd4, hk4⟩
    clear cs
    go_wp2_with (refine store_blk rfl 25 (.tmp 8) (.tmp 35) rfl w4.heap.size rfl 25 _ (dgl d p4 c4) rfl (blkZ w4) rfl infoDg (dgl_one _ _ _) ?_)
    intro w5 hb5 hk5
    have hk45 := kept_new hk5
    have hk35 := hk4.trans0 hk45
    have hk05 := hk03.trans0 hk35
    have hb35 := hk35.blk hb3 (by simp)
    have ht5 := hk35.blk ht3 (by simp)
    have hd5 := hd4.kept hk45
    have hbe5 := hbe.kept hk35
    have r1 := hb5.row
    have r2 : hasRow w5 w4.heap.size 11 = true := hb5.has
    have r3 := hb35.row
    have r4 : hasRow w5 w.heap.size 11 = true := hb35.has
    clear hk5 hk45 hk35 hb3 ht3 hd4 hbe hk03 hk4 HD'
    go_wp2_with fail
    refine (dsame_eq d p4 p c4 c _ hd5 (hd'.out.kept hk05)).mono ?_
    rintro e w6 ⟨rfl, hk6⟩
    have hk06 := hk05.trans0 hk6
    have hb6 := hk6.blk hb35 (by simp)
    have ht6 := hk6.blk ht5 (by simp)
    have hbe6 := hbe5.kept hk6
    clear r1 r2 r3 r4 hb5 hb35 ht5 hd5 hbe5 hk05 hk6
    have HD := decode_any w1.heap.size s ae _ ce (encL d) w6 hbe6 ht6 hs
    rw [(hbk.out s).1, (hbk.out s).2] at HD
    have HD' := Lib.hid HD
    clear HD
    by_cases h : s = d.sess
    · have hs1 : ((s : Int) == (d.sess : Int)) = true := by rw [h]; simp
      have HD2 := HD'.out
      rw [if_pos h, if_pos h] at HD2
      have HD3 := Lib.hid HD2
      clear HD2 h HD'
      go_wp2_with fail
      refine HD3.out.mono ?_
      rintro e w7 ⟨p7, c7, rfl, hd7, hk7⟩
      have hk07 := hk06.trans0 hk7
      have hb7 := hk7.blk hb6 (by simp)
      clear hk06 hb6 hk7 hd7 HD3
      go_wp2_with (refine store_blk rfl 25 (.tmp 10) (.tmp 50) rfl w7.heap.size rfl 25 _ (dgl d p7 c7) rfl (blkZ w7) rfl infoDg (dgl_one _ _ _) ?_)
      intro w8 hb8 hk8
      have hk78 := kept_new hk8
      have hb78 := hk78.blk hb7 (by simp)
      have cs := hb78.cell (show (dgl d p c)[1]? = some (.int .u32 d.sess) from rfl)
      have hk08 := hk07.trans0 hk78
      clear hk8 hb8 hb7 hk07 hb78
      go_wp2
      go_ret
      exact ⟨rfl, hk08⟩
    · have hs1 : ((s : Int) == (d.sess : Int)) = false := by rw [beq_eq_false_iff_ne]; omega
      have HD2 := HD'.out
      rw [if_neg h, if_neg h] at HD2
      have HD3 := Lib.hid HD2
      clear HD2 h HD'
      go_wp2_with fail
      refine HD3.out.mono ?_
      rintro e w7 ⟨p7, c7, rfl, hd7, hk7⟩
      have hk07 := hk06.trans0 hk7
      have hb7 := hk7.blk hb6 (by simp)
      clear hk06 hb6 hk7 HD3
      go_wp2_with (refine store_blk rfl 25 (.tmp 10) (.tmp 50) rfl w7.heap.size rfl 25 _ (dgl dg0 p7 c7) rfl (blkZ w7) rfl infoDg (dgl_one _ _ _) ?_)
      intro w8 hb8 hk8
      have hk78 := kept_new hk8
      have hb78 := hk78.blk hb7 (by simp)
      have cs := hb78.cell (show (dgl d p c)[1]? = some (.int .u32 d.sess) from rfl)
      have hk08 := hk07.trans0 hk78
      have hd8 := hd7.kept hk78
      have r1 := hb8.row
      have r2 : hasRow w8 w7.heap.size 11 = true := hb8.has
      clear hk8 hb8 hb7 hk07 hb78 hd7 hk78
      go_wp2_with fail
      refine (dsame_eq dg0 p7 none c7 0 _ hd8 (bts_none _)).mono ?_
      rintro e w9 ⟨rfl, hk9⟩
      go_wp2
      go_ret
      exact ⟨rfl, hk08.trans0 hk9⟩
  · have n0 : (chk d != 0) = true := by rw [bne_iff_ne]; exact hc
    rcases (show chk d = 72 ∨ chk d = 73 by have := chk_vals d; omega) with h | h
    · have b1 : (chk d == 72) = true := by rw [h]; rfl
      clear hc h
      go_wp2
      go_ret
      exact ⟨rfl, hk03⟩
    · have b1 : (chk d == 72) = false := by rw [h]; rfl
      have b2 : (chk d == 73) = true := by rw [h]; rfl
      clear hc h
      go_wp2
      go_ret
      exact ⟨rfl, hk03⟩
end Go.Proofs.Ytpedenaaiinakaa
