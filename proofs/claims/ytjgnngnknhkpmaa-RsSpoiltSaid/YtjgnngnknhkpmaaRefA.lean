/- The document's numbers, and the shard at a place. -/
import Derived.Test.YtjgnngnknhkpmaaLst
namespace Go.Proofs.Ytjgnngnknhkpmaa
open Go Go.RowKit
set_option maxRecDepth 100000 in
set_option maxHeartbeats 1600000 in
theorem rfirst_any (n : Nat) (w : World) (hn : n ≤ 1000) :
    Calls Try.prog 34 #[.int .i64 n] w fun e w' => ∃ a c, e = .returned (.slice a n c) ∧ In w' a (List.range n) ∧ Kept [] w w' := by
  have hni : (n : Int) ≤ 1000 := by omega
  go_enter Try.func34, Try.ntmps34
  go_wp2_with fail
  go_loopw [3, 4] (fun ov iv wr => ∃ (i : Nat) (u : Value), i ≤ n ∧ iv = .int .i64 i ∧ u = ov ∧ Il w.heap.size wr u (List.range i) ∧ Kept [] w wr) (fun _ iv _ => n - (intOf iv).toNat)
  case atStart => exact ⟨0, _, by omega, rfl, rfl, Il.nil _ _, Kept.refl _ _⟩
  case round =>
    obtain ⟨i, u, hi, rfl, rfl, ho, hk⟩ := hrel
    have HO := hx ho
    have HK := hx hk
    clear ho hk
    by_cases hlt : i < n
    · have hj : (i : Int) < (n : Int) := by omega
      have HE := hx (show List.range (i + 1) = List.range i ++ [i] from List.range_succ)
      have HL := hx (show (List.range i).length = i from List.length_range)
      go_wp2_with (at_builtin; refine wpList_app rfl (.tmp 10) (.tmp 12) 43 rfl w.heap.size 3 (.int .i64 0) 1 8 infoInt Try.underlying43 rfl (by omega) u (List.range i).length (nts (List.range i)) rfl (World.ownsRow.alloc HO.out.own _) (some ⟨_, 0, none⟩) 1 1 [.int .i64 (i : Int)] rfl rfl (by simp) (by omega) (blk_news (Blk.new _ [.int .i64 (i : Int)] 3)) (one_int _) (by unfold maxLen; rw [HL.out]; omega) (by rw [HL.out]; omega) (HK.out.alloc _).size ?_; intro u2 w8 ho8 hg8; have HK8 := hx ((HK.out.alloc _).grown hg8 (fun q hq => .inr (HO.out.own.lt q hq).1)); have HO8 := hx (Il.push ho8); clear ho8 hg8 HO HK)
      go_wp2
      go_roundw
      case rel => exact ⟨i + 1, u2, by omega, by go_num, rfl, by rw [HE.out]; exact HO8.out, HK8.out⟩
      case measure => simp [intOf] <;> omega
    · obtain rfl : i = n := by omega
      obtain ⟨a, c, h1, h2, h3⟩ := HO.out.form
      rw [List.length_range] at h1
      subst h1
      have H3 := hx h3
      clear h3
      go_wp2_with fail
      go_ret
      exact ⟨a, c, rfl, H3.out, HK.out⟩
/-- The weights of places for one. -/
def wts (l : List Nat) (x : Nat) : List Nat := tab l.length fun j => wgt l j x
theorem wts_at {l : List Nat} {x j : Nat} (h : j < l.length) : (wts l x).getD j 0 = wgt l j x := by
  rw [List.getD_eq_getElem?_getD, wts, tab_get h]
  rfl
/-- The first i are mixed. -/
def mixU (a : Nat) (r s : List Nat) (i : Nat) : List Nat := tab r.length fun p => if p < i then (mixL a r s).getD p 0 else r.getD p 0
theorem mixU_0 (a : Nat) (r s : List Nat) : mixU a r s 0 = r := (tab_eq rfl fun i hi => by rw [if_neg (by omega)]; exact getD_some 0 hi).symm
theorem mixU_all (a : Nat) (r s : List Nat) (h : r.length = s.length) : mixU a r s r.length = mixL a r s := (tab_eq (mixL_len a r s h) fun i hi => by rw [if_pos hi]; exact getD_some 0 (by rw [mixL_len a r s h]; exact hi)).symm
theorem mixU_len (a : Nat) (r s : List Nat) (i : Nat) : (mixU a r s i).length = r.length := tab_len _ _
theorem mixU_at (a : Nat) (r s : List Nat) (i : Nat) (hi : i < r.length) : (mixU a r s i)[i]? = some (r.getD i 0) := by
  rw [mixU, tab_get hi, if_neg (by omega)]
theorem mixU_set (a : Nat) (r s : List Nat) (h : r.length = s.length) (i : Nat) (hi : i < r.length) : (mixU a r s i).set i (r.getD i 0 ^^^ gmul a (s.getD i 0)) = mixU a r s (i + 1) :=
  tab_set hi (by rw [if_pos (by omega), List.getD_eq_getElem?_getD (l := mixL a r s), mixL_at a r s h i hi]; rfl) fun j _ hj => by
    by_cases h1 : j < i
    · rw [if_pos h1, if_pos (by omega)]
    · rw [if_neg h1, if_neg (by omega)]
set_option maxRecDepth 100000 in
set_option maxHeartbeats 8000000 in
theorem rat_any (al a2 : Option Addr) (l : List Nat) (cl c2 x n : Nat) (ls : List (List Nat)) (w : World) (hI : In w al l) (hlo : Oct l) (hl1 : 1 ≤ l.length) (hln : l.length ≤ 1000) (hx8 : x < 256)
    (hM : Mt l.length n ls) (hC : Cs w a2 ls) (hn : n ≤ 100000) :
    Calls Try.prog 24 #[.slice al l.length cl, .slice a2 l.length c2, .int .i64 x] w fun e w' => ∃ g, e = .returned (.slice (some ⟨g, 0, none⟩) n n) ∧ Blk w' g ((mulRow n ls (wts l x) l.length).map bn) 5 ∧ w.heap.size ≤ g ∧ Kept [] w w' := by
  have hmk := makeU8 n (by omega)
  have HW := hx (fun j w9 (hj : j < l.length) (hk : Kept [] w w9) => weight_any al l cl j x w9 (hI.kept hk) hj hlo hln hx8)
  have HWL := hx (fun j => wgt_lt l j x)
  have HMR := hx (fun k (hk : k ≤ l.length) => mulRow_ok hM (wts l x) k hk)
  have HMS := hx (fun k (hk : k < l.length) => show mulRow n ls (wts l x) (k + 1) = mixL (wgt l k x) (mulRow n ls (wts l x) k) (rw ls k) by rw [mulRow, wts_at hk])
  have HLL := hx (fun k (hk : k < l.length) => (⟨hM.len hk, hM.rowOct hk⟩ : (rw ls k).length = n ∧ Oct (rw ls k)))
  have HC := hx hC
  have HLR := hx hM.rows
  have HX := hx (fun p q (hp : p < 256) (hq : q < 256) => u8_xor_nat p q hp hq)
  have HMU := hx (fun (p q : Nat) w9 (hp : p < 256) (hq : q < 256) => show Calls Try.prog 25 #[.int .u8 p, .int .u8 q] w9 fun e w' => e = .returned (.int .u8 (gmul p q : Nat)) ∧ w9 = w' by have h := refmul_any p q w9 hp hq; rw [mulR_gmul p q hp hq] at h; exact h)
  have HGL := hx (fun p q => gmul_lt p q)
  have HZ := hx (show mulRow n ls (wts l x) 0 = List.replicate n 0 from rfl)
  obtain ⟨b0, o0, a0, c0, rfl, hc0, _⟩ := hC 0 (by rw [hM.rows]; omega)
  rw [hM.len (show 0 < l.length by omega), Nat.add_zero] at hc0
  have hni : (n : Int) ≤ 100000 := by omega
  have hl1i : (1 : Int) ≤ (l.length : Int) := by omega
  have hlni : (l.length : Int) ≤ 1000 := by omega
  have HB0 := hx (show Blk (w.alloc (.cells (madeCells #[.int .u8 0] n) 5)) w.heap.size ((mulRow n ls (wts l x) 0).map bn) 5 by
    have h := Blk.new' w (madeCells #[.int .u8 0] n) 5
    rw [made_bn] at h
    exact h)
  have HK0 := hx ((Kept.refl [] w).alloc (.cells (madeCells #[.int .u8 0] n) 5))
  clear hI hlo hln hM hC
  generalize l.length = k at *
  go_enter Try.func24, Try.ntmps24
  go_upto_region 2 with fail
  clear hmk
  generalize w.alloc (.cells (madeCells #[.int .u8 0] n) 5) = W at *
  have HG := hx (Nat.le_refl w.heap.size)
  go_wp2_with fail
  go_loopw [8] (fun jv wr => ∃ j : Nat, j ≤ k ∧ jv = .int .i64 j ∧ Blk wr w.heap.size ((mulRow n ls (wts l x) j).map bn) 5 ∧ Kept [] w wr) (fun jv _ => k - (intOf jv).toNat)
  case atStart => exact ⟨0, by omega, rfl, HB0.out, HK0.out⟩
  case round =>
    clear HB0 HK0
    obtain ⟨j, hj, rfl, hb, hk⟩ := hrel
    have HB := hx hb
    have HK := hx hk
    clear hb hk
    by_cases hlt : j < k
    · have hji : (j : Int) < (k : Int) := by omega
      have HWJ := hx (HW.out j wr hlt HK.out)
      have hw8 := HWL.out j
      have HS := hx (HMS.out j hlt)
      have HO := hx (HMR.out j (by omega))
      have HR := hx (HLL.out j hlt)
      obtain ⟨bd, od, ai, ci, ha, hcd, hbn⟩ := HC.out j (by rw [HLR.out]; exact hlt)
      simp only [Option.some.injEq, Addr.mk.injEq, and_true] at ha
      obtain ⟨rfl, rfl⟩ := ha
      rw [HR.out.1] at hcd
      have HCD := hx hcd
      have HBN := hx hbn
      clear hcd hbn
      generalize wgt l j x = y at *
      generalize mulRow n ls (wts l x) j = r at *
      generalize rw ls j = s at *
      go_wp2_with fail
      refine HWJ.out.mono ?_
      rintro e w2 ⟨rfl, hk2⟩
      have HB2 := hx (show Blk w2 w.heap.size ((mixU y r s 0).map bn) 5 by rw [mixU_0]; exact hk2.blk HB.out (by simp))
      have HK2 := hx (HK.out.trans0 hk2)
      clear hk2 HB HK HWJ
      go_wp2_with fail
      go_loopw [10] (fun iv wr => ∃ i : Nat, i ≤ n ∧ iv = .int .i64 i ∧ Blk wr w.heap.size ((mixU y r s i).map bn) 5 ∧ Kept [] w wr) (fun iv _ => n - (intOf iv).toNat)
      case atStart => exact ⟨0, by omega, rfl, HB2.out, HK2.out⟩
      case round =>
        clear HB2 HK2
        obtain ⟨i, hi, rfl, hb, hk⟩ := hrel
        by_cases hli : i < n
        · have hii : (i : Int) < (n : Int) := by omega
          obtain ⟨bs, os, ha, hcs⟩ := HBN.out i (by rw [HR.out.1]; exact hli)
          subst ha
          have hp8 : r.getD i 0 < 256 := HO.out.2.at i
          have hq8 : s.getD i 0 < 256 := HR.out.2.at i
          have hm8 := HGL.out y (s.getD i 0)
          have cg : wr.cell? ⟨w.heap.size, i, none⟩ = some (.int .u8 ((r.getD i 0 : Nat) : Int)) := hb.cell (by rw [List.getElem?_map, mixU_at y r s i (by rw [HO.out.1]; exact hli)]; rfl)
          have ch := kept_cell hk HCD.out
          have cs := kept_cell hk hcs
          unfold bn at cs
          have hbd := hb.drew
          have f1 := hb.free i
          have f2 := hbd.free i
          have HX2 := hx (show bits .xor .u8 ((r.getD i 0 : Nat) : Int) ((gmul y (s.getD i 0) : Nat) : Int) = ((r.getD i 0 ^^^ gmul y (s.getD i 0) : Nat) : Int) from HX.out _ _ hp8 hm8)
          have HM1 := hx (fun w9 => HMU.out y (s.getD i 0) w9 hw8 hq8)
          have HB3 := hx (show Blk (wr.drew.setCell ⟨w.heap.size, i, none⟩ (.int .u8 ((r.getD i 0 ^^^ gmul y (s.getD i 0) : Nat) : Int))) w.heap.size ((mixU y r s (i + 1)).map bn) 5 by
            have h := hbd.set i (bn (r.getD i 0 ^^^ gmul y (s.getD i 0)))
            rw [← List.map_set, mixU_set y r s (by rw [HO.out.1, HR.out.1]) i (by rw [HO.out.1]; exact hli)] at h
            exact h)
          have HK3 := hx (show Kept [] w (wr.drew.setCell ⟨w.heap.size, i, none⟩ (.int .u8 ((r.getD i 0 ^^^ gmul y (s.getD i 0) : Nat) : Int))) from hk.drew.setCell (.inr (by simp)) _)
          have hkd : Kept [] wr wr.drew := (Kept.refl [] wr).drew
          have cg2 := kept_cell hkd cg
          have ch2 := kept_cell hkd ch
          have cs2 := kept_cell hkd cs
          have hb1 := HX2.out
          have hw1 : IntKind.u8.wrap ((r.getD i 0 ^^^ gmul y (s.getD i 0) : Nat) : Int) = ((r.getD i 0 ^^^ gmul y (s.getD i 0) : Nat) : Int) := by
            have h : r.getD i 0 ^^^ gmul y (s.getD i 0) < 256 := Nat.xor_lt_two_pow (n := 8) hp8 hm8
            rw [IntKind.wrap_u8]; omega
          generalize r.getD i 0 ^^^ gmul y (s.getD i 0) = z at *
          generalize r.getD i 0 = p at *
          generalize s.getD i 0 = q at *
          generalize gmul y q = m at *
          clear hb hk hcs hbd
          go_upto_region 9 with fail
          go_region_with (go_at_call 25; refine (HM1.out _).mono ?_; rintro e w9 ⟨rfl, rfl⟩)
          all_goals
            go_wp2_with fail
            go_roundw
            case rel => exact ⟨i + 1, by omega, by go_num, HB3.out, HK3.out⟩
            case measure => simp [intOf] <;> omega
        · obtain rfl : i = n := by omega
          have HD := hx (show Blk wr w.heap.size ((mulRow i ls (wts l x) (j + 1)).map bn) 5 by
            rw [HS.out, ← mixU_all y r s (by rw [HO.out.1, HR.out.1]), HO.out.1]
            exact hb)
          have HK4 := hx hk
          clear hb hk
          go_wp2_with fail
          go_roundw
          case rel => exact ⟨j + 1, by omega, by go_num, HD.out, HK4.out⟩
          case measure => simp [intOf] <;> omega
    · obtain rfl : j = k := by omega
      go_wp2_with fail
      go_ret
      exact ⟨_, rfl, HB.out, HG.out, HK.out⟩
end Go.Proofs.Ytjgnngnknhkpmaa
