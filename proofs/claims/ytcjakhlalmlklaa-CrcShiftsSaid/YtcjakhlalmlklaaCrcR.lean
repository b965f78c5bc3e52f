import Derived.Test.YtcjakhlalmlklaaCrcN
import Derived.Test.YtcjakhlalmlklaaCrcQ
namespace Go.Proofs.Ytcjakhlalmlklaa
open Go.RowKit
theorem bit_and {m k : Nat} (hm : m < 4294967296) : bits .and .u32 ((m : Int) / 2 ^ k) 1 = ((m / 2 ^ k % 2 : Nat) : Int) := by
  have h : m / 2 ^ k < 4294967296 := Nat.lt_of_le_of_lt (Nat.div_le_self _ _) hm
  have e := and1 h
  rw [← e, Int.natCast_ediv, Int.natCast_pow]; rfl
theorem mask_succ (m k : Nat) (h : m / 2 ^ k % 2 = 1) (f : Nat) : (m % 2 ^ (k + 1)) * 2 ^ f = ((m % 2 ^ k) * 2 ^ f) ^^^ 2 ^ (f + k) := by
  have e : m % 2 ^ (k + 1) = (m % 2 ^ k) ^^^ 2 ^ k := by
    apply Nat.eq_of_testBit_eq
    intro i
    rw [Nat.testBit_xor, Nat.testBit_mod_two_pow, Nat.testBit_mod_two_pow, Nat.testBit_two_pow]
    by_cases hi : i = k
    · subst hi
      have : m.testBit i = true := by rw [Nat.testBit_eq_decide_div_mod_eq]; simp [h]
      simp [this]
    · by_cases hlt : i < k
      · simp [hlt, show i < k + 1 by omega, show ¬ k = i by omega]
      · simp [hlt, show ¬ i < k + 1 by omega, show ¬ k = i by omega]
  rw [e, ← Nat.shiftLeft_eq, Nat.shiftLeft_xor_distrib, Nat.shiftLeft_eq, Nat.shiftLeft_eq, Nat.pow_add, Nat.mul_comm (2 ^ k)]
theorem mask_same (m k : Nat) (h : ¬ m / 2 ^ k % 2 = 1) : m % 2 ^ (k + 1) = m % 2 ^ k := by
  rw [Nat.pow_succ, Nat.mod_mul, show m / 2 ^ k % 2 = 0 by omega]; simp
theorem mask_pos (m k : Nat) (h : m / 2 ^ k % 2 = 1) : m % 2 ^ (k + 1) ≠ 0 := by
  rw [Nat.pow_succ, Nat.mod_mul, h]
  have := Nat.two_pow_pos k
  omega
theorem num_le4 (m : Nat) (hm : m < 4294967296) : num (le4 m) = m := by
  simp only [le4, num, lob_nat]
  omega
theorem flip_cells (l : List UInt8) (rest : List Value) (k : Nat) (h : k / 8 < l.length) : (flip l k).map bv ++ rest = (l.map bv ++ rest).set (k / 8) (.int .u8 ((l[k / 8].toNat ^^^ 2 ^ (k % 8) : Nat) : Int)) := by
  rw [List.set_append_left _ _ (by simpa using h)]
  congr 1
  unfold flip
  rw [List.map_set]
  congr 1
  simp only [h, List.getElem?_eq_getElem, Option.getD_some, bv]
  rw [UInt8.toNat_ofNat_of_lt' (xor_byte l[k / 8].toNat_lt (by omega))]
set_option maxRecDepth 100000 in
set_option maxHeartbeats 1000000 in
theorem law_bursts (a : Option Addr) (n c : Nat) (l : List UInt8) (at_ mask : Nat) (w : World) (hl : Bts w a n c l) (hat : at_ < 65536) (hmask : mask < 4294967296) :
    Calls Try.prog 6 #[.slice a n c, .int .u16 at_, .int .u32 mask] w fun e w' => e = .returned (.bool true) ∧ Kept [] w w' := by
  by_cases hbig : n > 1000
  · have hbi : (1000 : Int) < (n : Int) := by omega
    go_enter Try.func6, Try.ntmps6
    go_wp2_with fail
    refine (awake_any _).mono ?_
    rintro e w1 ⟨rfl, hk⟩
    go_wp2
    go_ret
    exact ⟨rfl, hk⟩
  · have hbi : ¬ (1000 : Int) < (n : Int) := by omega
    have hn := hl.hlen
    have hn' := Lib.hid hn
    clear hn
    go_enter Try.func6, Try.ntmps6
    go_wp2_with fail
    refine (awake_any _).mono ?_
    rintro e w1 ⟨rfl, hk1⟩
    go_wp2_with fail
    refine (new_any _).mono ?_
    rintro e w2 ⟨rfl, hb2, hk2⟩
    have hk := hk1.trans0 hk2
    have hl2 := hl.kept hk
    have hlt2 := hb2.lt
    go_wp2_with fail
    refine (seal_any _ _ _ _ l _ hl2 (by have := hn'.out; omega) hb2).mono ?_
    rintro e w4 ⟨v, rfl, hown4, hk4⟩
    obtain ⟨g, cap, rest, hv, hg, hn4, hcap, hblk, hlen, hlc⟩ := own_get hown4 (by omega)
    subst hv
    have hk04 := hk.trans0 hk4
    have hsz := hk.size
    obtain ⟨f, hf⟩ : ∃ f, f = at_ % (8 * (n + 4)) := ⟨_, rfl⟩
    have hfl : f < 8 * (n + 4) := by rw [hf]; exact Nat.mod_lt _ (by omega)
    have hF : (at_ : Int) % (8 * ((n : Int) + 4)) = (f : Int) := by rw [hf]; simp
    clear hf
    go_wp2
    rw [hF]
    clear hF
    have hgt : w1.heap.size ≠ g := by omega
    have hg0 : w.heap.size ≤ g := by have := hk04.size; have := hk1.size; omega
    have hD : (sealed l).length = n + 4 := by simpa using hlen
    have hDh := Lib.hid hD
    clear hD hlen
    go_loopw [10, 11] (fun tv iv wr => ∃ (k : Nat) (li : List UInt8), k ≤ 32 ∧ f + k ≤ 8 * (n + 4) ∧ iv = .int .i64 k ∧ tv = .bool (decide (mask % 2 ^ k ≠ 0)) ∧ li.length = n + 4 ∧ num li = num (sealed l) ^^^ ((mask % 2 ^ k) * 2 ^ f) ∧ Blk wr g (li.map bv ++ rest) 5 ∧ Kept [] w wr ∧ Blk wr w1.heap.size (tabk 256) 48) (fun _ i _ => 32 - (intOf i).toNat)
    case atStart => exact ⟨0, sealed l, by omega, by omega, rfl, by simp [Nat.mod_one], hDh.out, by simp [Nat.mod_one], hblk, hk04, hk4.blk hb2 (by simp)⟩
    case round =>
      obtain ⟨k, li, hk32, hfk, rfl, rfl, hli, hnum, hbr, hkr, hbt⟩ := hrel
      have hnum' := Lib.hid hnum
      have hli' := Lib.hid hli
      clear hnum hli
      by_cases hgo : k < 32 ∧ f + k < 8 * (n + 4)
      · obtain ⟨hlt, hfl2⟩ := hgo
        by_cases hbit : mask / 2 ^ k % 2 = 1
        · have h1 : bits .and .u32 ((mask : Int) / 2 ^ k) 1 = 1 := by rw [bit_and hmask, hbit]; rfl
          have hm1 := Lib.hid (mask_succ mask k hbit f)
          have hm2 := Lib.hid (mask_pos mask k hbit)
          have hbh := Lib.hid hbit
          clear hbit
          obtain ⟨K, hK⟩ : ∃ K, K = f + k := ⟨_, rfl⟩
          have hKK : (f : Int) + (k : Int) = (K : Int) := by omega
          have hKl : K < 8 * (n + 4) := by omega
          have hK' := Lib.hid hK
          clear hK
          have hix : K / 8 < li.length := by have := hli'.out; omega
          have hcell := hbr.cell (i := K / 8) (v := .int .u8 (li[K / 8].toNat : Int)) (by rw [List.getElem?_append_left (by simpa using hix)]; simp [hix, bv])
          have hfree := hbr.free (K / 8)
          have b0 : (0 : Int) ≤ (K : Int) / 8 := by omega
          have b1 : (K : Int) / 8 < (n : Int) + 4 := by omega
          have b2 : ((K : Int) / 8).toNat = K / 8 := by omega
          obtain ⟨j, hj⟩ : ∃ j, j = K % 8 := ⟨_, rfl⟩
          have hj8 : j < 8 := by omega
          have b3 : (K : Int).tmod 8 = (j : Int) := by rw [hj, Int.tmod_eq_emod_of_nonneg (by omega)]; simp
          have hj' := Lib.hid hj
          clear hj
          have b4 : IntKind.u8.wrap ((2 : Int) ^ j) = (2 : Int) ^ j := by
            have : j = 0 ∨ j = 1 ∨ j = 2 ∨ j = 3 ∨ j = 4 ∨ j = 5 ∨ j = 6 ∨ j = 7 := by omega
            rcases this with rfl | rfl | rfl | rfl | rfl | rfl | rfl | rfl <;> rfl
          have hx8 := xor_byte li[K / 8].toNat_lt hj8
          have b7 : bits .xor .u8 (li[K / 8].toNat : Int) ((2 : Int) ^ j) = ((li[K / 8].toNat ^^^ 2 ^ j : Nat) : Int) := by
            rw [← u8_xor_nat _ (2 ^ j) li[K / 8].toNat_lt (Nat.pow_lt_pow_right (by omega) hj8 : 2 ^ j < 2 ^ 8), Int.natCast_pow]; rfl
          have b5 : IntKind.i64.wrap ((K : Int) / 8) = (K : Int) / 8 := by rw [IntKind.wrap_i64]; omega
          go_wp2
          go_region
          go_wp2
          go_roundw
          case rel =>
            refine ⟨k + 1, flip li K, by omega, by omega, by go_num, ?_, ?_, ?_, ?_, (hkr.setCell (p := ⟨_, _, none⟩) (.inr hg0) _).drew, (hbt.set_ne hgt _).drew⟩
            · rw [decide_eq_true hm2.out]
            · rw [flip_len]; exact hli'.out
            · rw [num_flip _ _ (by rw [hli'.out]; exact hKl), hnum'.out, hm1.out, hK'.out, Nat.xor_assoc]
            · have h := hbr.set (K / 8) (.int .u8 ((li[K / 8].toNat ^^^ 2 ^ j : Nat) : Int))
              rw [flip_cells li rest K hix, ← hj'.out]
              exact h
          case measure => simp [intOf] <;> omega
        · have h1 : bits .and .u32 ((mask : Int) / 2 ^ k) 1 = 0 := by rw [bit_and hmask, show mask / 2 ^ k % 2 = 0 by omega]; rfl
          have hm1 := Lib.hid (mask_same mask k hbit)
          have hbh := Lib.hid hbit
          clear hbit
          obtain ⟨K, hK⟩ : ∃ K, K = f + k := ⟨_, rfl⟩
          have hKK : (f : Int) + (k : Int) = (K : Int) := by omega
          have hKl : K < 8 * (n + 4) := by omega
          clear hK
          go_wp2
          go_roundw
          case rel => exact ⟨k + 1, li, by omega, by omega, by go_num, by rw [hm1.out]; simp, hli'.out, by rw [hm1.out]; exact hnum'.out, hbr, hkr, hbt⟩
          case measure => simp [intOf] <;> omega
      · have hend : k = 32 ∨ (¬ k = 32 ∧ f + k = 8 * (n + 4)) := by omega
        have hbl : Bts wr (some ⟨g, 0, none⟩) (n + 4) cap li := by
          have h := bts_blk hbr (cap := cap) (by rw [hli'.out]; exact hn4) hcap
          rwa [hli'.out] at h
        have hgoh := Lib.hid hgo
        clear hgo
        obtain ⟨o, s0, s1, s2, s3, hlo⟩ := split4 li (by rw [hli'.out]; omega)
        subst hlo
        have hol : o.length = n := by have := hli'.out; simp at this; omega
        have holh := Lib.hid hol
        clear hol
        by_cases hz : mask % 2 ^ k = 0
        · have hd := Lib.hid (decide_eq_false (not_not_intro hz))
          have hsame : o ++ [s0, s1, s2, s3] = sealed l := num_inj (by rw [hli'.out, hDh.out]) (by rw [hnum'.out, hz, Nat.zero_mul, Nat.xor_zero])
          have hz' := Lib.hid hz
          clear hz
          obtain ⟨rfl, hs4⟩ : o = l ∧ [s0, s1, s2, s3] = le4 (mor 0 l) := List.append_inj hsame (by rw [holh.out]; exact hn'.out)
          have hbeg := Lib.hid ((le4_beg _ _ _ _ _ (mor_lt 0 o)).1 hs4)
          clear hs4 hsame
          rw [hd.out]
          rcases hend with rfl | ⟨hk3, hfe⟩
          · go_wp2_with fail
            refine (open_good _ _ n cap o s0 s1 s2 s3 _ hbl holh.out (by omega) hbt hbeg.out).mono ?_
            rintro e w5 ⟨v, rfl, hown5, hk5⟩
            obtain ⟨a3, c3, hv, hb5⟩ := Bts.own hown5
            subst hv
            have hk05 := hkr.trans0 hk5
            go_wp2_with fail
            refine (same_any _ _ _ _ _ _ o o _ hb5 (hl.kept hk05)).mono ?_
            rintro e w6 ⟨he, q, rfl⟩
            rw [decide_eq_true rfl] at he
            subst he
            go_wp2
            go_ret
            exact ⟨rfl, hk05.drewN _⟩
          · have hc1 : (k : Int) < 32 := by omega
            have hc2 : decide ((f : Int) + (k : Int) < 8 * ((n : Int) + 4)) = false := by simp; omega
            go_wp2_with fail
            refine (open_good _ _ n cap o s0 s1 s2 s3 _ hbl holh.out (by omega) hbt hbeg.out).mono ?_
            rintro e w5 ⟨v, rfl, hown5, hk5⟩
            obtain ⟨a3, c3, hv, hb5⟩ := Bts.own hown5
            subst hv
            have hk05 := hkr.trans0 hk5
            go_wp2_with fail
            refine (same_any _ _ _ _ _ _ o o _ hb5 (hl.kept hk05)).mono ?_
            rintro e w6 ⟨he, q, rfl⟩
            rw [decide_eq_true rfl] at he
            subst he
            go_wp2
            go_ret
            exact ⟨rfl, hk05.drewN _⟩
        · have hd := Lib.hid (decide_eq_true hz)
          have hbeg : ¬ beg [s3, s2, s1, s0] = mor 0 o := by
            intro hb
            have h4 := (le4_beg s0 s1 s2 s3 _ (mor_lt 0 o)).2 hb
            have h5 := num_le4 (mor 0 o) (mor_lt 0 o)
            rw [← h4] at h5
            have e1 := rst_whole o [s0, s1, s2, s3] rfl h5
            have e2 : rst 4294967295 (sealed l) = ones 32 4294967295 := rst_whole l (le4 (mor 0 l)) rfl (num_le4 _ (mor_lt 0 l))
            refine burst_ne 4294967295 (sealed l) (o ++ [s0, s1, s2, s3]) (mask % 2 ^ k) f (by rw [hli'.out, hDh.out]) hnum'.out ?_ hz (by rw [hDh.out]; omega) (by rw [e1, e2])
            exact Nat.lt_of_lt_of_le (Nat.mod_lt _ (Nat.two_pow_pos k)) (Nat.pow_le_pow_right (n := 2) (by omega) hk32)
          have hbeg := Lib.hid hbeg
          clear hz
          rw [hd.out]
          rcases hend with rfl | ⟨hk3, hfe⟩
          · go_wp2_with fail
            refine (open_bad _ _ n cap o s0 s1 s2 s3 _ hbl holh.out (by omega) hbt hbeg.out).mono ?_
            rintro e w5 ⟨rfl, hk5⟩
            have hk05 := hkr.trans0 hk5
            go_wp2
            go_ret
            exact ⟨rfl, hk05⟩
          · have hc1 : (k : Int) < 32 := by omega
            have hc2 : decide ((f : Int) + (k : Int) < 8 * ((n : Int) + 4)) = false := by simp; omega
            go_wp2_with fail
            refine (open_bad _ _ n cap o s0 s1 s2 s3 _ hbl holh.out (by omega) hbt hbeg.out).mono ?_
            rintro e w5 ⟨rfl, hk5⟩
            have hk05 := hkr.trans0 hk5
            go_wp2
            go_ret
            exact ⟨rfl, hk05⟩
end Go.Proofs.Ytcjakhlalmlklaa
