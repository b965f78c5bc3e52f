import Derived.Test.YtpedenaaiinakaaWireU
import Derived.Test.YtpedenaaiinakaaCrcQ
namespace Go.Proofs.Ytpedenaaiinakaa
open Go Go.RowKit
attribute [local go_sem ↓] exec_Dg
attribute [local go_sem] goodPtr_at rowAt_at
theorem bit_and {m k : Nat} (hm : m < 4294967296) : bits .and .u32 ((m : Int) / 2 ^ k) 1 = ((m / 2 ^ k % 2 : Nat) : Int) := by
  have h : m / 2 ^ k < 4294967296 := Nat.lt_of_le_of_lt (Nat.div_le_self _ _) hm
  have e := and1 h
  rw [← e, Int.natCast_ediv, Int.natCast_pow]; rfl
theorem mask_succ (m k : Nat) (h : m / 2 ^ k % 2 = 1) (f : Nat) : (m % 2 ^ (k + 1)) * 2 ^ f = ((m % 2 ^ k) * 2 ^ f) ^^^ 2 ^ (f + k) := by
  have e : m % 2 ^ (k + 1) = (m % 2 ^ k) ^^^ 2 ^ k := by
    apply Nat.eq_of_testBit_eq
    intro i
    rw [Nat.testBit_xor, Nat.testBit_mod_two_pow, Nat.testBit_mod_two_pow, Nat.testBit_two_pow]
    by_cases hi : i = k
    · subst hi
      have : m.testBit i = true := by rw [Nat.testBit_eq_decide_div_mod_eq]; simp [h]
      simp [this]
    · by_cases hlt : i < k
      · simp [hlt, show i < k + 1 by omega, show ¬ k = i by omega]
      · simp [hlt, show ¬ i < k + 1 by omega, show ¬ k = i by omega]
  rw [e, ← Nat.shiftLeft_eq, Nat.shiftLeft_xor_distrib, Nat.shiftLeft_eq, Nat.shiftLeft_eq, Nat.pow_add, Nat.mul_comm (2 ^ k)]
theorem mask_same (m k : Nat) (h : ¬ m / 2 ^ k % 2 = 1) : m % 2 ^ (k + 1) = m % 2 ^ k := by
  rw [Nat.pow_succ, Nat.mod_mul, show m / 2 ^ k % 2 = 0 by omega]; simp
theorem mask_pos (m k : Nat) (h : m / 2 ^ k % 2 = 1) : m % 2 ^ (k + 1) ≠ 0 := by
  rw [Nat.pow_succ, Nat.mod_mul, h]
  have := Nat.two_pow_pos k
  omega
theorem num_le4 (m : Nat) (hm : m < 4294967296) : num (le4 m) = m := by
  simp only [le4, num, lob_nat]
  omega
theorem flip_cells (l : List UInt8) (rest : List Value) (k : Nat) (h : k / 8 < l.length) : (flip l k).map bv ++ rest = (l.map bv ++ rest).set (k / 8) (.int .u8 ((l[k / 8].toNat ^^^ 2 ^ (k % 8) : Nat) : Int)) := by
  rw [List.set_append_left _ _ (by simpa using h)]
  congr 1
  unfold flip
  rw [List.map_set]
  congr 1
  simp only [h, List.getElem?_eq_getElem, Option.getD_some, bv]
  rw [UInt8.toNat_ofNat_of_lt' (xor_byte l[k / 8].toNat_lt (by omega))]
theorem rst_sealed (o : List UInt8) : rst 4294967295 (sealed o) = ones 32 4294967295 := rst_whole o (le4 (mor 0 o)) rfl (num_le4 _ (mor_lt 0 o))
theorem broken_E (s : Nat) (o li : List UInt8) (m f : Nat) (h33 : 33 ≤ li.length) (h14 : li.length ≤ 1400) (hlen : li.length = (sealed o).length) (hnum : num li = num (sealed o) ^^^ (m * 2 ^ f)) (hm : m < 4294967296) (h0 : m ≠ 0) (hf : f ≤ 8 * li.length) : decE s li = 20 ∧ decD s li = dg0 := by
  have hne : ¬ sealed (li.take (li.length - 4)) = li := by
    intro h
    have e1 := rst_sealed (li.take (li.length - 4))
    rw [h] at e1
    exact burst_ne 4294967295 (sealed o) li m f hlen hnum hm h0 (by omega) (by rw [e1, rst_sealed])
  have hE : decE s li = 20 := by unfold decE; rw [if_neg (by omega), if_neg (by omega), if_neg hne]
  refine ⟨hE, ?_⟩
  unfold decD
  rw [hE]; rfl
set_option maxRecDepth 100000 in
set_option maxHeartbeats 3200000 in
theorem law_broken (d : Dg) (p : Option Addr) (c : Nat) (at_ mask : Nat) (w : World) (hd : Bts w p d.data.length c d.data) (hf : DgFits d) (hat : at_ < 65536) (hmask : mask < 4294967296) :
    Calls Try.prog 8 #[.agg (dgl d p c).toArray, .int .u16 at_, .int .u32 mask] w fun e w' => e = .returned (.bool true) ∧ Kept [] w w' := by
  have hz := zeroDg
  have hb := Blk.new w (dgl d p c) 25
  have hk0 : Kept [] w (w.alloc (.cells (dgl d p c).toArray 25)) := (Kept.refl _ _).alloc _
  have hb' := Lib.hid hb
  have hd' := Lib.hid hd
  have hf' := Lib.hid hf
  have hk0' := Lib.hid hk0
  clear hb hd hf hk0
  go_enter Try.func8, Try.ntmps8
  go_wp2_with fail
  refine (wawake_any _).mono ?_
  rintro e w1 ⟨rfl, hk1⟩
  go_wp2_with fail
  refine (new_any _).mono ?_
  rintro e w2 ⟨rfl, ht2, hk2⟩
  have hkb := hk1.trans0 hk2
  have hb2 := hkb.blk hb'.out (by simp)
  have hk02 := hk0'.out.trans0 hkb
  have r1 := hb2.row
  have r2 : hasRow w2 w.heap.size 11 = true := hb2.has
  have HB2 := Lib.hid hb2
  have hlt2 := ht2.lt
  have hlt3 := hb2.lt
  have hsz02 := hk02.size
  clear hk1 hk2 hkb hb2
  go_wp2_with fail
  refine (encode_any w1.heap.size d p d.data.length c _ (hd'.out.kept hk02) hf'.out ht2).mono ?_
  rintro e w3 ⟨v, rfl, ho, hk3⟩
  have ht3 := hk3.blk ht2 (by simp)
  have hb3 := hk3.blk HB2.out (by simp)
  have hk03 := hk02.trans0 hk3
  have hsz := hk3.size
  clear r1 r2 ht2 hk02 hk3 HB2
  by_cases hc : chk d = 0
  · have n0 : (chk d != 0) = false := by rw [hc]; rfl
    have hbk := Lib.hid (back_own d hf'.out hc)
    have hl := encL_good d hc
    have hg6 := (good_of d hc).len
    have hsl : encL d = sealed (plainL d) := by unfold encL; rw [if_pos hc]
    obtain ⟨n, hn⟩ : ∃ n, (encL d).length = n := ⟨_, rfl⟩
    have hn33 : 33 ≤ n := by omega
    have hn14 : n ≤ 1233 := by omega
    rw [hn] at ho
    unfold OwnB at ho
    obtain ⟨g, cap, rest, hv, hg, hn4, hcap, hblk, hlen, hlc⟩ := own_get ho (by omega)
    subst hv
    have b33 : ¬ (n : Int) < 33 := by omega
    have b14 : ¬ (1400 : Int) < (n : Int) := by omega
    obtain ⟨f, hf⟩ : ∃ f, f = at_ % (8 * n) := ⟨_, rfl⟩
    have hfl : f < 8 * n := by rw [hf]; exact Nat.mod_lt _ (by omega)
    have hF : (at_ : Int) % (8 * (n : Int)) = (f : Int) := by rw [hf]; simp
    have hDh := Lib.hid hn
    have hSL := Lib.hid hsl
    have hgt : w1.heap.size ≠ g := by omega
    have hgd : w.heap.size ≠ g := by omega
    have hg0 : w.heap.size ≤ g := by omega
    clear hf hc hl hn hsl ho hlen hlc
    go_wp2
    try rw [hF]
    clear hF
    go_loopw [11, 12] (fun tv iv wr => ∃ (k : Nat) (li : List UInt8), k ≤ 32 ∧ f + k ≤ 8 * n ∧ iv = .int .i64 k ∧ tv = .bool (decide (mask % 2 ^ k ≠ 0)) ∧ li.length = n ∧ num li = num (encL d) ^^^ ((mask % 2 ^ k) * 2 ^ f) ∧ Blk wr g (li.map bv ++ rest) 5 ∧ Kept [] w wr ∧ Blk wr w1.heap.size (tabk 256) 60 ∧ Blk wr w.heap.size (dgl d p c) 25) (fun _ i _ => 32 - (intOf i).toNat)
    case atStart => exact ⟨0, encL d, by omega, by omega, rfl, by simp [Nat.mod_one], hDh.out, by simp [Nat.mod_one], hblk, hk03, ht3, hb3⟩
    case round =>
      clear hblk hk03 ht3 hb3
      obtain ⟨k, li, hk32, hfk, rfl, rfl, hli, hnum, hbr, hkr, hbt, hbd⟩ := hrel
      have hnum' := Lib.hid hnum
      have hli' := Lib.hid hli
      clear hnum hli
      by_cases hgo : k < 32 ∧ f + k < 8 * n
      · obtain ⟨hlt, hfl2⟩ := hgo
        by_cases hbit : mask / 2 ^ k % 2 = 1
        · have h1 : bits .and .u32 ((mask : Int) / 2 ^ k) 1 = 1 := by rw [bit_and hmask, hbit]; rfl
          have hm1 := Lib.hid (mask_succ mask k hbit f)
          have hm2 := Lib.hid (mask_pos mask k hbit)
          have hbh := Lib.hid hbit
          clear hbit
          obtain ⟨K, hK⟩ : ∃ K, K = f + k := ⟨_, rfl⟩
          have hKK : (f : Int) + (k : Int) = (K : Int) := by omega
          have hKl : K < 8 * n := by omega
          have hK' := Lib.hid hK
          clear hK
          have hix : K / 8 < li.length := by have := hli'.out; omega
          have hcell := hbr.cell (i := K / 8) (v := .int .u8 (li[K / 8].toNat : Int)) (by rw [List.getElem?_append_left (by simpa using hix)]; simp [hix, bv])
          have hfree := hbr.free (K / 8)
          have hKi : (K : Int) < 8 * (n : Int) := by omega
          have hki : (k : Int) < 32 := by omega
          have b0 : (0 : Int) ≤ (K : Int) / 8 := by omega
          have b1 : (K : Int) / 8 < (n : Int) := by omega
          have b2 : ((K : Int) / 8).toNat = K / 8 := by omega
          obtain ⟨j, hj⟩ : ∃ j, j = K % 8 := ⟨_, rfl⟩
          have hj8 : j < 8 := by omega
          have b3 : (K : Int).tmod 8 = (j : Int) := by rw [hj, Int.tmod_eq_emod_of_nonneg (by omega)]; simp
          have hj' := Lib.hid hj
          clear hj
          have b4 : IntKind.u8.wrap ((2 : Int) ^ j) = (2 : Int) ^ j := by
            have : j = 0 ∨ j = 1 ∨ j = 2 ∨ j = 3 ∨ j = 4 ∨ j = 5 ∨ j = 6 ∨ j = 7 := by omega
            rcases this with rfl | rfl | rfl | rfl | rfl | rfl | rfl | rfl <;> rfl
          have hx8 := xor_byte li[K / 8].toNat_lt hj8
          have b7 : bits .xor .u8 (li[K / 8].toNat : Int) ((2 : Int) ^ j) = ((li[K / 8].toNat ^^^ 2 ^ j : Nat) : Int) := by
            rw [← u8_xor_nat _ (2 ^ j) li[K / 8].toNat_lt (Nat.pow_lt_pow_right (by omega) hj8 : 2 ^ j < 2 ^ 8), Int.natCast_pow]; rfl
          have b5 : IntKind.i64.wrap ((K : Int) / 8) = (K : Int) / 8 := by rw [IntKind.wrap_i64]; omega
          go_wp2
          go_region
          go_wp2
          go_roundw
          case rel =>
            refine ⟨k + 1, flip li K, by omega, by omega, by go_num, ?_, ?_, ?_, ?_, (hkr.setCell (p := ⟨_, _, none⟩) (.inr hg0) _).drew, (hbt.set_ne (a := ⟨g, K / 8, none⟩) hgt (.int .u8 ((li[K / 8].toNat ^^^ 2 ^ j : Nat) : Int))).drew, (hbd.set_ne (a := ⟨g, K / 8, none⟩) hgd (.int .u8 ((li[K / 8].toNat ^^^ 2 ^ j : Nat) : Int))).drew⟩
            · rw [decide_eq_true hm2.out]
            · rw [flip_len]; exact hli'.out
            · rw [num_flip _ _ (by rw [hli'.out]; exact hKl), hnum'.out, hm1.out, hK'.out, Nat.xor_assoc]
            · have h := hbr.set (K / 8) (.int .u8 ((li[K / 8].toNat ^^^ 2 ^ j : Nat) : Int))
              rw [flip_cells li rest K hix, ← hj'.out]
              exact h
          case measure => simp [intOf] <;> omega
        · have h1 : bits .and .u32 ((mask : Int) / 2 ^ k) 1 = 0 := by rw [bit_and hmask, show mask / 2 ^ k % 2 = 0 by omega]; rfl
          have hm1 := Lib.hid (mask_same mask k hbit)
          have hbh := Lib.hid hbit
          clear hbit
          obtain ⟨K, hK⟩ : ∃ K, K = f + k := ⟨_, rfl⟩
          have hKK : (f : Int) + (k : Int) = (K : Int) := by omega
          have hKl : K < 8 * n := by omega
          have hKi : (K : Int) < 8 * (n : Int) := by omega
          have hki : (k : Int) < 32 := by omega
          clear hK
          go_wp2
          go_roundw
          case rel => exact ⟨k + 1, li, by omega, by omega, by go_num, by first | (rw [hm1.out]; done) | (rw [hm1.out]; simp), hli'.out, by rw [hm1.out]; exact hnum'.out, hbr, hkr, hbt, hbd⟩
          case measure => simp [intOf] <;> omega
      · have hend : k = 32 ∨ (¬ k = 32 ∧ f + k = 8 * n) := by omega
        have hbl : Bts wr (some ⟨g, 0, none⟩) n cap li := by
          have h := bts_blk hbr (cap := cap) (by rw [hli'.out]; exact hn4) hcap
          rwa [hli'.out] at h
        have cs := hbd.cell (show (dgl d p c)[1]? = some (.int .u32 d.sess) from rfl)
        have hgoh := Lib.hid hgo
        clear hgo
        have HD := decode_any w1.heap.size d.sess (some ⟨g, 0, none⟩) n cap li wr hbl hbt hf'.out.sess
        by_cases hz0 : mask % 2 ^ k = 0
        · have hd := Lib.hid (decide_eq_false (not_not_intro hz0))
          have hsame : li = encL d := num_inj (by rw [hli'.out, hDh.out]) (by rw [hnum'.out, hz0, Nat.zero_mul, Nat.xor_zero])
          rw [hsame, (hbk.out d.sess).1, (hbk.out d.sess).2, if_pos rfl, if_pos rfl] at HD
          have HD' := Lib.hid HD
          clear hz0 hsame HD
          rw [hd.out]
          rcases hend with rfl | ⟨hk3, hfe⟩
          · go_wp2_with fail
            refine HD'.out.mono ?_
            rintro e w5 ⟨p5, c5, rfl, hd5, hk5⟩
            have hk05 := hkr.trans0 hk5
            go_wp2_with (refine store_blk rfl 25 (.tmp 14) (.tmp 85) rfl w5.heap.size rfl 25 _ (dgl d p5 c5) rfl (blkZ w5) rfl infoDg (dgl_one _ _ _) ?_)
            intro w6 hb6 hk6
            have hk56 := kept_new hk6
            go_wp2
            go_ret
            exact ⟨rfl, hk05.trans0 hk56⟩
          · have hc1 : (k : Int) < 32 := by omega
            have hc2 : decide ((f : Int) + (k : Int) < 8 * (n : Int)) = false := by simp <;> omega
            go_wp2_with fail
            refine HD'.out.mono ?_
            rintro e w5 ⟨p5, c5, rfl, hd5, hk5⟩
            have hk05 := hkr.trans0 hk5
            go_wp2_with (refine store_blk rfl 25 (.tmp 14) (.tmp 85) rfl w5.heap.size rfl 25 _ (dgl d p5 c5) rfl (blkZ w5) rfl infoDg (dgl_one _ _ _) ?_)
            intro w6 hb6 hk6
            have hk56 := kept_new hk6
            go_wp2
            go_ret
            exact ⟨rfl, hk05.trans0 hk56⟩
        · have hd := Lib.hid (decide_eq_true hz0)
          have hm32 : mask % 2 ^ k < 4294967296 := Nat.lt_of_lt_of_le (Nat.mod_lt _ (Nat.two_pow_pos k)) (Nat.pow_le_pow_right (n := 2) (by omega) hk32)
          have hbr2 := broken_E d.sess (plainL d) li (mask % 2 ^ k) f (by rw [hli'.out]; exact hn33) (by rw [hli'.out]; omega) (by rw [← hSL.out, hli'.out, hDh.out]) (by rw [← hSL.out]; exact hnum'.out) hm32 hz0 (by rw [hli'.out]; omega)
          rw [hbr2.1, hbr2.2] at HD
          have HD' := Lib.hid HD
          clear hz0 hm32 hbr2 HD
          rw [hd.out]
          rcases hend with rfl | ⟨hk3, hfe⟩
          · go_wp2_with fail
            refine HD'.out.mono ?_
            rintro e w5 ⟨p5, c5, rfl, hd5, hk5⟩
            have hk05 := hkr.trans0 hk5
            go_wp2_with (refine store_blk rfl 25 (.tmp 14) (.tmp 85) rfl w5.heap.size rfl 25 _ (dgl dg0 p5 c5) rfl (blkZ w5) rfl infoDg (dgl_one _ _ _) ?_)
            intro w6 hb6 hk6
            have hk56 := kept_new hk6
            have hd6 := hd5.kept hk56
            have r1 := hb6.row
            have r2 : hasRow w6 w5.heap.size 11 = true := hb6.has
            have hk06 := hk05.trans0 hk56
            clear hk56 hk05 hb6 hk6
            go_wp2_with fail
            refine (dsame_eq dg0 p5 none c5 0 _ hd6 (bts_none _)).mono ?_
            rintro e w9 ⟨rfl, hk9⟩
            go_wp2
            go_ret
            exact ⟨rfl, hk06.trans0 hk9⟩
          · have hc1 : (k : Int) < 32 := by omega
            have hc2 : decide ((f : Int) + (k : Int) < 8 * (n : Int)) = false := by simp <;> omega
            go_wp2_with fail
            refine HD'.out.mono ?_
            rintro e w5 ⟨p5, c5, rfl, hd5, hk5⟩
            have hk05 := hkr.trans0 hk5
            go_wp2_with (refine store_blk rfl 25 (.tmp 14) (.tmp 85) rfl w5.heap.size rfl 25 _ (dgl dg0 p5 c5) rfl (blkZ w5) rfl infoDg (dgl_one _ _ _) ?_)
            intro w6 hb6 hk6
            have hk56 := kept_new hk6
            have hd6 := hd5.kept hk56
            have r1 := hb6.row
            have r2 : hasRow w6 w5.heap.size 11 = true := hb6.has
            have hk06 := hk05.trans0 hk56
            clear hk56 hk05 hb6 hk6
            go_wp2_with fail
            refine (dsame_eq dg0 p5 none c5 0 _ hd6 (bts_none _)).mono ?_
            rintro e w9 ⟨rfl, hk9⟩
            go_wp2
            go_ret
            exact ⟨rfl, hk06.trans0 hk9⟩
  · have n0 : (chk d != 0) = true := by rw [bne_iff_ne]; exact hc
    obtain ⟨ae, ce, rfl, hbe⟩ := ho.bts
    clear hc
    go_wp2
    go_ret
    exact ⟨rfl, hk03⟩
end Go.Proofs.Ytpedenaaiinakaa
