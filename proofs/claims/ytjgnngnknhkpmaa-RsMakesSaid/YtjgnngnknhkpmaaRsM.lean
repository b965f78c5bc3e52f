/- RsMakes. -/
import Derived.Test.YtjgnngnknhkpmaaRsV
namespace Go.Proofs.Ytjgnngnknhkpmaa
open Go Go.RowKit
set_option maxRecDepth 100000 in
set_option maxHeartbeats 3200000 in
theorem makes_bad (k m : Int) (w : World) (h : BadK k m) :
    Calls Try.prog 4 #[.int .i64 k, .int .i64 m] w fun e w' => e = .returned (.bool true) ∧ Kept [] w w' := by
  have HB := hx (fun v w9 => rsnew_bad v k m w9 h)
  rcases h with h | ⟨h1, h2⟩ | ⟨h1, h2, h3⟩ | ⟨h1, h2, h3, h4⟩
  all_goals
    go_enter Try.func4, Try.ntmps4
    go_wp2_with fail
    refine (awake_any w).mono ?_
    rintro e w1 ⟨rfl, hk1⟩
    have K1 := hx hk1
    clear hk1
    go_wp2_with fail
    refine (gfnew_any w1).mono ?_
    rintro e w2 ⟨rfl, hT, hk2⟩
    have K2 := hx (K1.out.trans0 hk2)
    clear hT hk2 K1
    go_wp2_with fail
    refine (HB.out _ w2).mono ?_
    rintro e w3 ⟨rfl, rfl⟩
    go_wp2_with fail
    all_goals
      go_ret
      exact ⟨rfl, K2.out⟩
theorem weight_range (k c j x : Nat) (a : Option Addr) (w : World) (hI : In w a (List.range k)) (hk : k ≤ 255) (hj : j < k) (hx8 : x < 256) :
    Calls Try.prog 19 #[.slice a k c, .int .i64 j, .int .i64 x] w fun e w' => e = .returned (.int .u8 ((wgt (List.range k) j x : Nat) : Int)) ∧ Kept [] w w' := by
  have h := weight_any a (List.range k) c j x w hI (by rw [List.length_range]; exact hj) (fun y hy => by rw [List.mem_range] at hy; omega) (by rw [List.length_range]; omega) hx8
  rw [List.length_range] at h
  exact h
set_option maxRecDepth 100000 in
set_option maxHeartbeats 8000000 in
theorem makes_good (k m : Nat) (w : World) (h1 : 1 ≤ k) (hkm : k + m ≤ 255) :
    Calls Try.prog 4 #[.int .i64 k, .int .i64 m] w fun e w' => e = .returned (.bool true) ∧ Kept [] w w' := by
  have hki : (1 : Int) ≤ (k : Int) := by omega
  have hki2 : (k : Int) ≤ 255 := by omega
  have hmi : (m : Int) ≤ 255 - (k : Int) := by omega
  have hmi0 : (0 : Int) ≤ (m : Int) := by omega
  have HH := hx (And.intro h1 hkm)
  clear h1 hkm
  have hkk : ((k : Int) != (k : Int)) = false := by simp
  have hmm : ((m : Int) != (m : Int)) = false := by simp
  go_enter Try.func4, Try.ntmps4
  go_wp2_with fail
  refine (awake_any w).mono ?_
  rintro e w1 ⟨rfl, hk1⟩
  have K1 := hx hk1
  clear hk1
  go_wp2_with fail
  refine (gfnew_any w1).mono ?_
  rintro e w2 ⟨rfl, hT, hk2⟩
  have HT := hx hT
  have K2 := hx (K1.out.trans0 hk2)
  have HNW := hx (rsnew_any w1.heap.size k m w2 hT HH.out.1 HH.out.2)
  clear hT hk2 K1
  generalize w1.heap.size = t at *
  go_wp2_with fail
  refine HNW.out.mono ?_
  rintro e w3 hc
  obtain ⟨g, gr, R, rfl, hcod, hk3⟩ := cod_new HT.out HH.out.2 hc
  have K3 := hx (K2.out.trans0 hk3)
  have S3 := hx hcod
  have HD := hx (data_any t g gr k m R w3 hcod)
  have HP := hx (parity_any t g gr k m R w3 hcod)
  clear hc hcod hk3 HNW HT K2
  go_wp2_with fail
  refine HD.out.mono ?_
  rintro e w4 ⟨rfl, rfl⟩
  go_wp2_with fail
  refine HP.out.mono ?_
  rintro e w4 ⟨rfl, rfl⟩
  clear HD HP
  go_wp2_with fail
  refine (small_any (k : Int) (m : Int) w3).mono ?_
  rintro e w4 ⟨hs, rfl⟩
  rcases hs with ⟨hs, rfl⟩ | ⟨_, rfl⟩
  · have HR := hx (rows_any t g gr k m R w3 S3.out HH.out.1 HH.out.2)
    have HM := hx S3.out.mt
    have HRW := hx (S3.out.rows HH.out.2)
    have hk20 : (k : Int) ≤ 20 := hs.2.2.1
    have hm20 : (m : Int) ≤ 20 := hs.2.2.2
    clear hs S3
    unfold mv at HR
    go_wp2_with fail
    refine HR.out.mono ?_
    rintro e w4 ⟨gd, cap, rest, rfl, hbd, hk4⟩
    obtain ⟨N, hN⟩ : ∃ N, k + m = N := ⟨_, rfl⟩
    have hNi : (k : Int) + (m : Int) = (N : Int) := by omega
    have HN := hx hN
    have hN40 : N ≤ 40 := by omega
    rw [hN] at HM ⊢
    obtain ⟨q, hq⟩ : ∃ q, N * k = q := ⟨_, rfl⟩
    have hqi : (N : Int) * (k : Int) = (q : Int) := by rw [← hq]; push_cast; rfl
    have HQ := hx hq
    have hq800 : q ≤ 800 := by rw [← hq]; exact Nat.mul_le_mul hN40 (show k ≤ 20 by omega)
    have hwq : wrap64 (q : Int) = (q : Int) := by unfold wrap64; omega
    rw [hq]
    have HBD := hx (hbd.alloc (.cells #[.int .i64 (N : Int), .int .i64 (k : Int), .slice (some ⟨gd, 0, none⟩) q cap] 41))
    have BX := hx (Blk.new w4 [.int .i64 (N : Int), .int .i64 (k : Int), .slice (some ⟨gd, 0, none⟩) q cap] 41)
    have K5 := hx ((K3.out.trans0 hk4).alloc (.cells #[.int .i64 (N : Int), .int .i64 (k : Int), .slice (some ⟨gd, 0, none⟩) q cap] 41))
    clear hbd hk4 HR K3 hN hq
    go_upto_region 11 with fail
    generalize w4.heap.size = gx at *
    generalize w4.alloc (.cells #[.int .i64 (N : Int), .int .i64 (k : Int), .slice (some ⟨gd, 0, none⟩) q cap] 41) = w5 at *
    have x0 := BX.out.cell (i := 0) rfl
    have x1 := BX.out.cell (i := 1) rfl
    have x2 := BX.out.cell (i := 2) rfl
    have hNN : ((N : Int) != (N : Int)) = false := by simp
    have hqq : ((q : Int) != (q : Int)) = false := by simp
    go_wp2_with fail
    clear hNN hqq
    go_loopw [8, 9] (fun ov iv wr => ∃ (i : Nat) (u : Value), i ≤ k ∧ iv = .int .i64 i ∧ u = ov ∧ Il w5.heap.size wr u (List.range i) ∧ Kept [] w5 wr) (fun _ iv _ => k - (intOf iv).toNat)
    case atStart => exact ⟨0, _, by omega, rfl, rfl, Il.nil _ _, Kept.refl _ _⟩
    case round =>
      obtain ⟨i, u, hi, rfl, rfl, ho, hk⟩ := hrel
      have HO := hx ho
      have HK := hx hk
      clear ho hk
      by_cases hlt : i < k
      · have hj : (i : Int) < (k : Int) := by omega
        have HE := hx (show List.range (i + 1) = List.range i ++ [i] from List.range_succ)
        have HL := hx (show (List.range i).length = i from List.length_range)
        go_wp2_with (at_builtin; refine wpList_app rfl (.tmp 95) (.tmp 97) 43 rfl w5.heap.size 3 (.int .i64 0) 1 8 infoInt Try.underlying43 rfl (by omega) u (List.range i).length (nts (List.range i)) rfl (World.ownsRow.alloc HO.out.own _) (some ⟨_, 0, none⟩) 1 1 [.int .i64 (i : Int)] rfl rfl (by simp) (by omega) (blk_news (Blk.new _ [.int .i64 (i : Int)] 3)) (one_int _) (by unfold maxLen; rw [HL.out]; omega) (by rw [HL.out]; omega) (HK.out.alloc _).size ?_; intro u2 w8 ho8 hg8; have HK8 := hx ((HK.out.alloc _).grown hg8 (fun q hq => .inr (HO.out.own.lt q hq).1)); have HO8 := hx (Il.push ho8); clear ho8 hg8 HO HK)
        go_wp2
        go_roundw
        case rel => exact ⟨i + 1, u2, by omega, by go_num, rfl, by rw [HE.out]; exact HO8.out, HK8.out⟩
        case measure => simp [intOf] <;> omega
      · obtain rfl : i = k := by omega
        obtain ⟨al, cl, hv, _, hin⟩ := HO.out.form
        rw [List.length_range] at hv
        subst hv
        have HI := hx hin
        have hk255 : i ≤ 255 := by omega
        have HW := hx (fun j x w9 (hj : j < i) (hx8 : x < 256) (hk : Kept [] wr w9) => weight_range i cl j x al w9 (HI.out.kept hk) hk255 hj hx8)
        have HEQ := hx (fun x j (hx8 : x < N) (hj : j < i) => rwgt HRW.out HH.out.2 (x := x) (j := j) (by rw [HN.out]; exact hx8) hj)
        have X5 := hx (HK.out.blk BX.out (by simp))
        have D5 := hx (HK.out.blk HBD.out (by simp))
        have K6 := hx (K5.out.trans0 HK.out)
        clear hin HO HK HI BX HBD K5 x0 x1 x2
        generalize wr = w6 at *
        go_wp2_with fail
        go_loopw [10] (fun xv wz => ∃ x : Nat, x ≤ N ∧ xv = .int .i64 x ∧ Kept [] w6 wz) (fun xv _ => N - (intOf xv).toNat)
        case atStart => exact ⟨0, by omega, rfl, Kept.refl _ _⟩
        case round =>
          obtain ⟨x, hxN, rfl, hkz⟩ := hrel
          have HKZ := hx hkz
          clear hkz
          by_cases hlx : x < N
          · have hxi : (x : Int) < (N : Int) := by omega
            obtain ⟨p, hp⟩ : ∃ p, x * i = p := ⟨_, rfl⟩
            have hpi : (x : Int) * (i : Int) = (p : Int) := by rw [← hp]; push_cast; rfl
            have hpq : p + i ≤ q := by
              rw [← HQ.out, ← hp, ← Nat.succ_mul]
              exact Nat.mul_le_mul (by omega) (Nat.le_refl _)
            have HPE := hx hp
            clear hp
            go_wp2_with fail
            go_loopw [11] (fun jv wy => ∃ j : Nat, j ≤ i ∧ jv = .int .i64 j ∧ Kept [] w6 wy) (fun jv _ => i - (intOf jv).toNat)
            case atStart => exact ⟨0, by omega, rfl, HKZ.out⟩
            case round =>
              clear HKZ
              obtain ⟨j, hji, rfl, hky⟩ := hrel
              by_cases hlj : j < i
              · have hjj : (j : Int) < (i : Int) := by omega
                have HKY := hx hky
                have hjq : p + j < q := by omega
                have cx := kept_cell hky (X5.out.cell (i := 2) rfl)
                have cd := row_cells (D5.out) HM.out hlx j hlj
                rw [HPE.out, HEQ.out x j hlx hlj] at cd
                have hqp : (p : Int) + (j : Int) < (q : Int) := by omega
                have hq0 : 0 ≤ (p : Int) + (j : Int) := by omega
                have hqw : IntKind.i64.wrap (p : Int) = (p : Int) := by rw [IntKind.wrap_i64]; omega
                have hqw2 : IntKind.i64.wrap ((p : Int) + (j : Int)) = (p : Int) + (j : Int) := by rw [IntKind.wrap_i64]; omega
                have hqn : ((p : Int) + (j : Int)).toNat = p + j := by omega
                have cd2 := kept_cell hky cd
                unfold bn at cd2
                have HWX := hx (fun w9 (hk : Kept [] wr w9) => HW.out j x w9 hlj (by omega) (HKY.out.trans0 hk))
                generalize wgt (List.range i) j x = z at *
                have hzz : ((z : Int) != (z : Int)) = false := by simp
                have hkd : Kept [] wr wr.drew := (Kept.refl [] wr).drew
                have cx3 := kept_cell hkd cx
                have cd3 := kept_cell hkd cd2
                clear hky cd
                go_upto_region 24 with fail
                go_region_with (go_at_call 19; refine (HWX.out _ (by assumption)).mono ?_; rintro e w9 ⟨rfl, hk9⟩; have hkk9 : Kept [] wr w9 := Kept.trans0 (by assumption) hk9; have cx9 := kept_cell hkk9 cx; have cd9 := kept_cell hkk9 cd2; have HK9 := hx (HKY.out.trans0 hkk9))
                all_goals
                  go_wp2_with fail
                  go_roundw
                  case rel => exact ⟨j + 1, by omega, by go_num, HK9.out⟩
                  case measure => simp [intOf] <;> omega
              · obtain rfl : j = i := by omega
                have HKY := hx hky
                clear hky
                go_wp2_with fail
                go_roundw
                case rel => exact ⟨x + 1, by omega, by go_num, HKY.out⟩
                case measure => simp [intOf] <;> omega
          · obtain rfl : x = N := by omega
            have K7 := hx (K6.out.trans0 HKZ.out)
            go_wp2_with fail
            go_ret
            exact ⟨rfl, K7.out⟩
  · go_wp2_with fail
    go_ret
    exact ⟨rfl, K3.out⟩
theorem law_makes (k m : Int) (w : World) :
    Calls Try.prog 4 #[.int .i64 k, .int .i64 m] w fun e w' => e = .returned (.bool true) ∧ Kept [] w w' := by
  by_cases h : BadK k m
  · exact makes_bad k m w h
  · have h2 : 1 ≤ k ∧ 0 ≤ m ∧ k ≤ 255 ∧ m ≤ 255 - k := by
      unfold BadK at h
      omega
    obtain ⟨h3, h4, h5, h6⟩ := h2
    obtain ⟨a, rfl⟩ := Int.eq_ofNat_of_zero_le (show 0 ≤ k by omega)
    obtain ⟨b, rfl⟩ := Int.eq_ofNat_of_zero_le h4
    exact makes_good a b w (by omega) (by omega)
end Go.Proofs.Ytjgnngnknhkpmaa
