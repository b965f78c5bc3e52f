/- Parts of the proof. -/
import Derived.Test.YtgdofgckjkmhjaaGreatPk02
set_option linter.unusedSimpArgs false
set_option linter.unusedVariables false
namespace Go.Proofs.YtgdofgckjkmhjaaGreat
open Go Go.RowKit
/-- How many of the first i marks are pushed out and missing. -/
def lc (bits k : Nat) : Nat → Nat
  | 0 => 0
  | i + 1 => lc bits k i + if 64 ≤ i + k ∧ bits.testBit i = false then 1 else 0
theorem lc_le (bits k i : Nat) : lc bits k i ≤ i := by
  induction i with
  | zero => simp [lc]
  | succ i ih => unfold lc; split <;> omega
theorem lc_none (bits k i : Nat) (h : i + k ≤ 64) : lc bits k i = 0 := by
  induction i with
  | zero => rfl
  | succ i ih => unfold lc; rw [ih (by omega), if_neg (by omega)]
theorem lc_lz (bits k j : Nat) (h : j ≤ min k 64) : lc bits k 64 = lc bits k (64 - j) + lz bits j := by
  induction j with
  | zero => simp [lz]
  | succ j ih =>
    rw [ih (by omega), show 64 - j = (64 - (j + 1)) + 1 by omega]
    rw [show 64 - (j + 1) = 63 - j by omega, show lc bits k (63 - j + 1) = lc bits k (63 - j) + (if 64 ≤ 63 - j + k ∧ bits.testBit (63 - j) = false then 1 else 0) from rfl, show lz bits (j + 1) = lz bits j + (if bits.testBit (63 - j) = true then 0 else 1) from rfl]
    cases bits.testBit (63 - j)
    · rw [if_pos ⟨by omega, rfl⟩, if_neg (by simp)]; omega
    · rw [if_neg (by simp), if_pos rfl]; omega
theorem lc_all (bits k : Nat) : lc bits k 64 = lz bits (min k 64) := by
  rw [lc_lz bits k (min k 64) (Nat.le_refl _)]
  by_cases h : k ≤ 64
  · rw [lc_none bits k _ (by omega)]; omega
  · rw [show 64 - min k 64 = 0 by omega]; simp [lc]
/-- The new marks, as far as the first i are laid. -/
def mrow (bits k i : Nat) : List Value := tab 64 fun j => .bool (decide (k ≤ j ∧ j < k + i) && bits.testBit (j - k))
theorem mrow_len (bits k i : Nat) : (mrow bits k i).length = 64 := tab_len _ _
theorem mrow_0 (bits k : Nat) : mrow bits k 0 = tab 64 fun _ => .bool false := tab_ext fun j _ => by
  rw [show decide (k ≤ j ∧ j < k + 0) = false by simp]
  rfl
theorem mrow_step (bits k i : Nat) (h : i + k < 64) : (mrow bits k i).set (i + k) (.bool (bits.testBit i)) = mrow bits k (i + 1) := by
  refine tab_set h ?_ (fun j _ hne => ?_)
  · rw [show decide (k ≤ i + k ∧ i + k < k + (i + 1)) = true by simp; omega, show i + k - k = i by omega]; rfl
  · rw [show decide (k ≤ j ∧ j < k + i) = decide (k ≤ j ∧ j < k + (i + 1)) by apply decide_eq_decide.2; omega]
theorem mrow_out (bits k i : Nat) (h : 64 ≤ i + k) : mrow bits k i = mrow bits k (i + 1) := tab_ext fun j hj => by
  rw [show decide (k ≤ j ∧ j < k + i) = decide (k ≤ j ∧ j < k + (i + 1)) by apply decide_eq_decide.2; omega]
theorem mrow_all (bits k : Nat) : mrow bits k 64 = mkc (shlB bits k) := tab_ext fun j hj => by
  rw [shlB_bit _ _ _ hj, show decide (k ≤ j ∧ j < k + 64) = decide (k ≤ j) by apply decide_eq_decide.2; omega]
theorem mkc_one (bits : Nat) : ∀ v ∈ mkc bits, v.oneCell' = true := by
  intro v hv
  simp only [mkc, tab, List.mem_map] at hv
  obtain ⟨i, _, rfl⟩ := hv
  rfl
theorem rsc_marks (s : Sn) (B : Nat) : setAll (rsc s) 2 (mkc B) = rsc { s with bits := B } := by
  apply List.ext_getElem?
  intro i
  rw [setAll_get _ _ _ (by rw [rsc_len, mkc_len]; omega), mkc_len]
  by_cases h : 2 ≤ i ∧ i < 2 + 64
  · rw [if_pos h]
    have e := rsc_mark { s with bits := B } (i - 2) (by omega)
    rw [show 2 + (i - 2) = i by omega] at e
    rw [e]
    exact tab_get (by omega)
  · rw [if_neg h]
    by_cases h2 : i < 2
    · rcases (show i = 0 ∨ i = 1 by omega) with rfl | rfl <;> simp [rsc]
    · by_cases h3 : i < 69
      · have a := rsc_tail s (i - 66) (by omega)
        have b := rsc_tail { s with bits := B } (i - 66) (by omega)
        rw [show 66 + (i - 66) = i by omega] at a b
        rw [a, b]
      · rw [List.getElem?_eq_none (by rw [rsc_len]; omega), List.getElem?_eq_none (by rw [rsc_len]; omega)]
theorem infoMk : (Tryz.prog.info? 30).map (·.size) = some 64 := by kernel_rfl
theorem infoMkn (B : Nat) : (Tryz.prog.info? 30).map (·.size) = some (mkc B).length := by rw [mkc_len]; exact infoMk
theorem zeroMk (w : World) : (zeroValue 30).run Tryz.prog w = .ok (.agg (tab 64 fun _ => (.bool false : Value)).toArray) w := by kernel_rfl
theorem zeroMk' : ∃ Y : Array Value, Y.toList = (tab 64 fun _ => (.bool false : Value)) ∧ ∀ w, (zeroValue 30).run Tryz.prog w = .ok (.agg Y) w := ⟨_, rfl, zeroMk⟩
set_option maxRecDepth 100000 in
set_option maxHeartbeats 3200000 in
theorem rtake_newer (n : Nat) (s : Sn) (w : World) (ha : s.any = true) (ht : s.top < 4294967296) (hn : n < 4294967296) (h1 : 0 < behI n s.top) (hc0 : 0 ≤ s.came) (hc1 : s.came ≤ 1000000) (hl0 : 0 ≤ s.lost) (hl1 : s.lost.toNat ≤ 1000000000000) :
    Calls Tryz.prog 65 #[.agg (rsc s).toArray, .int .u32 n] w fun e w' => e = .returned (.tuple #[.agg (rsc (takeN s n).1).toArray, .int .i64 (takeN s n).2]) ∧ Kept [] w w' := by
  have HBeh := Lib.hid (fun w => rbehind_any n s.top w hn ht)
  have hbd := behI_bd n s.top hn ht
  obtain ⟨Z, hZ, hz⟩ := zeroRs'
  obtain ⟨Y, hY, hy⟩ := zeroMk'
  have hb := Blk.new w (rsc s) 32
  have c0 := fun ob => (hb.alloc ob).cell (i := 0) (v := .bool true) (by simp [rsc, ha])
  have HZ := Lib.hid hZ
  have HY := Lib.hid hY
  have HA := Lib.hid ha
  obtain ⟨k, hk⟩ : ∃ k : Nat, behI n s.top = (k : Int) := ⟨(behI n s.top).toNat, by omega⟩
  have hk0 : 0 < k := by omega
  have hkb : k ≤ 2147483648 := by omega
  have hkn : (behI n s.top).toNat = k := by omega
  have z := Lib.hid (show takeN s n = ({ s with top := n, bits := setB (shlB s.bits k) 0, came := s.came + 1, lost := s.lost + lz s.bits (min k 64) + (k - 64 : Nat) }, 0) by
    unfold takeN
    rw [if_neg (by simp [ha]), if_pos h1, hkn]
    simp only [ha])
  have g1 : decide ((k : Int) ≤ -64) = false := by simp <;> omega
  have g2 : decide ((k : Int) ≤ 0) = false := by simp <;> omega
  rw [hk] at HBeh
  clear ha hb hZ hY hn ht h1 hbd hk hkn
  go_enter Tryz.func65, Tryz.ntmps65
  go_upto_region 6 with fail
  clear c0
  have hk0 : Kept [] w ((w.alloc (.cells (rsc s).toArray 32)).alloc (.cells Z 32)) := ((Kept.refl _ _).alloc _).alloc _
  have b2 : Blk ((w.alloc (.cells (rsc s).toArray 32)).alloc (.cells Z 32)) w.heap.size (rsc s) 32 := (Blk.new w (rsc s) 32).alloc _
  have b4 : Blk ((w.alloc (.cells (rsc s).toArray 32)).alloc (.cells Z 32)) (w.heap.size + 1) (rsc sn0) 32 := by
    have h := Blk.new' (w.alloc (.cells (rsc s).toArray 32)) Z 32
    rw [HZ.out, show (w.alloc (.cells (rsc s).toArray 32)).heap.size = w.heap.size + 1 by simp] at h
    exact h
  have hsz : ((w.alloc (.cells (rsc s).toArray 32)).alloc (.cells Z 32)).heap.size = w.heap.size + 1 + 1 := by simp
  generalize (w.alloc (.cells (rsc s).toArray 32)).alloc (.cells Z 32) = W at *
  have c1 := b2.cell (i := 1) (v := .int .u32 s.top) (by simp [rsc])
  clear hz
  go_upto_region 16 with (first | (refine (HBeh.out _).mono ?_; rintro e w1 ⟨rfl, rfl⟩) | fail)
  have B2 := Lib.hid (b2.alloc (.cells Y 30))
  have B4 := Lib.hid (b4.alloc (.cells Y 30))
  have BY := Lib.hid (show Blk (W.alloc (.cells Y 30)) W.heap.size (mrow s.bits k 0) 30 by
    have h := Blk.new' W Y 30
    rw [HY.out, ← mrow_0 s.bits k] at h
    exact h)
  have K1 := Lib.hid (hk0.alloc (.cells Y 30))
  obtain ⟨m, hm⟩ : ∃ m, m = W.heap.size := ⟨_, rfl⟩
  clear b2 b4 c1 hk0
  rw [← hm] at BY hsz
  go_upto_region 17 with fail
  rw [← hm]
  generalize W.alloc (.cells Y 30) = W1 at *
  clear hm HY HZ hy
  have hm1 : w.heap.size ≠ m := by omega
  have hm2 : w.heap.size + 1 ≠ m := by omega
  have hm3 : w.heap.size ≤ m := by omega
  clear hsz
  go_wp2
  go_loopw [9] (fun iv wr => ∃ i : Nat, i ≤ 64 ∧ iv = .int .i64 i ∧ Blk wr w.heap.size (rsc { s with lost := s.lost + lc s.bits k i }) 32 ∧ Blk wr (w.heap.size + 1) (rsc sn0) 32 ∧ Blk wr m (mrow s.bits k i) 30 ∧ Kept [] w wr) (fun iv _ => 64 - (intOf iv).toNat)
  case atStart => exact ⟨0, by omega, rfl, by simpa [lc] using B2.out, B4.out, BY.out, K1.out⟩
  case round =>
    clear B2 B4 BY K1
    obtain ⟨i, hi, rfl, hb, hb4, hby, hkr⟩ := hrel
    obtain ⟨x, hx⟩ : ∃ x, x = s.lost + lc s.bits k i := ⟨_, rfl⟩
    have hx0 : 0 ≤ x := by omega
    have hx1 : x.toNat ≤ 1000000000064 := by have := lc_le s.bits k i; omega
    rw [← hx] at hb
    have HX := Lib.hid hx
    have hf := hb.free
    have hfm := hby.free
    have c5 := hb.cell (rsc_tail { s with lost := x } 2 (by omega))
    have HB := Lib.hid hb
    have HB4 := Lib.hid hb4
    have HBY := Lib.hid hby
    have HK := Lib.hid hkr
    by_cases hlt : i < 64
    · have ci := hb.cell (rsc_mark { s with lost := x } i hlt)
      have hii : (i : Int) < 64 := by omega
      simp only at ci
      clear hx hb hb4 hby hkr
      by_cases hik : i + k < 64
      · have cm := HBY.out.cell (i := i + k) (v := .bool (decide (k ≤ i + k ∧ i + k < k + i) && s.bits.testBit (i + k - k))) (tab_get (by omega))
        have hiik : (i : Int) + (k : Int) < 64 := by omega
        have hkk : (k : Int) < 64 := by omega
        have E := Lib.hid (HBY.out.set (i + k) (.bool (s.bits.testBit i)))
        have eX := Lib.hid (show x = s.lost + lc s.bits k (i + 1) by rw [show lc s.bits k (i + 1) = lc s.bits k i + (if 64 ≤ i + k ∧ s.bits.testBit i = false then 1 else 0) from rfl, if_neg (by omega), HX.out]; simp)
        go_wp2
        go_roundw
        case rel => exact ⟨i + 1, by omega, by go_num, by rw [← eX.out]; exact HB.out.set_ne (by simpa using hm1) _, HB4.out.set_ne (by simpa using hm2) _, by have h := E.out; rw [mrow_step _ _ _ hik] at h; exact h, HK.out.setCell (.inr hm3) _⟩
        case measure => simp [intOf] <;> omega
      · have hiik : 64 ≤ (i : Int) + (k : Int) := by omega
        have g3 : decide ((i : Int) + (k : Int) < 64) = false := by simp <;> omega
        cases hbit : s.bits.testBit i
        · have eX := Lib.hid (show x + 1 = s.lost + lc s.bits k (i + 1) by rw [show lc s.bits k (i + 1) = lc s.bits k i + (if 64 ≤ i + k ∧ s.bits.testBit i = false then 1 else 0) from rfl, if_pos ⟨by omega, hbit⟩, HX.out]; omega)
          have e2 := HB.out.set 68 (.int .i64 (x + 1))
          rw [rsc_set68] at e2
          have E2 := Lib.hid e2
          rw [hbit] at ci
          clear e2 hbit
          go_wp2
          go_roundw
          case rel => exact ⟨i + 1, by omega, by go_num, by rw [← eX.out]; exact E2.out, HB4.out.set_ne (by simp) _, by rw [← mrow_out _ _ _ (by omega)]; exact HBY.out.set_ne (by simpa using Ne.symm hm1) _, HK.out.setCell (.inr (by simp)) _⟩
          case measure => simp [intOf] <;> omega
        · have eX := Lib.hid (show x = s.lost + lc s.bits k (i + 1) by rw [show lc s.bits k (i + 1) = lc s.bits k i + (if 64 ≤ i + k ∧ s.bits.testBit i = false then 1 else 0) from rfl, if_neg (by simp [hbit]), HX.out]; simp)
          rw [hbit] at ci
          clear hbit
          go_wp2
          go_roundw
          case rel => exact ⟨i + 1, by omega, by go_num, by rw [← eX.out]; exact HB.out, HB4.out, by rw [← mrow_out _ _ _ (by omega)]; exact HBY.out, HK.out⟩
          case measure => simp [intOf] <;> omega
    · obtain rfl : i = 64 := by omega
      clear hlt hx hb hb4 hby hkr
      have hx2 := Lib.hid (show x = s.lost + lz s.bits (min k 64) by rw [HX.out, lc_all])
      by_cases h64 : 64 < k
      · have h64i : (64 : Int) < (k : Int) := by omega
        have E2 := HB.out.set 68 (.int .i64 (x + (k : Int) - 64))
        rw [rsc_set68] at E2
        have e2 := Lib.hid E2
        have e4 := Lib.hid (HB4.out.set_ne (a := ⟨w.heap.size, 68, none⟩) (by simp) (.int .i64 (x + (k : Int) - 64)))
        have em := Lib.hid (HBY.out.set_ne (a := ⟨w.heap.size, 68, none⟩) (by simpa using Ne.symm hm1) (.int .i64 (x + (k : Int) - 64)))
        have ek := Lib.hid (HK.out.setCell (p := ⟨w.heap.size, 68, none⟩) (.inr (by simp)) (.int .i64 (x + (k : Int) - 64)))
        clear E2
        go_upto_region 26 with fail
        clear c5 hf hfm
        generalize (World.setCell _ ⟨w.heap.size, 68, none⟩ (.int .i64 (x + (k : Int) - 64))) = W3 at *
        have hb3 := e2.out
        have hb43 := e4.out
        have hby3 := em.out
        have hk3 := ek.out
        obtain ⟨y, hyx⟩ : ∃ y, y = x + (k : Int) - 64 := ⟨_, rfl⟩
        rw [← hyx] at hb3
        have hy := Lib.hid (show y = s.lost + lz s.bits (min k 64) + (k - 64 : Nat) by have := hx2.out; omega)
        clear e2 e4 em ek h64i hx2 hyx
        have ey := Lib.hid (show (rsc { s with lost := y }).length = 69 from rsc_len _)
        have b1 := hby3.set 0 (.bool true)
        rw [mrow_all, mkc_set _ _ (by omega)] at b1
        have hm0 := hby3.cell (i := 0) (v := .bool (decide (k ≤ 0 ∧ 0 < k + 64) && s.bits.testBit (0 - k))) (tab_get (by omega))
        have hfm := hby3.free
        have B1 := Lib.hid b1
        have B3 := Lib.hid (hb3.set_ne (a := ⟨m, 0, none⟩) (by simpa using hm1) (.bool true))
        have B43 := Lib.hid (hb43.set_ne (a := ⟨m, 0, none⟩) (by simpa using hm2) (.bool true))
        have K3 := Lib.hid (hk3.setCell (p := ⟨m, 0, none⟩) (.inr hm3) (.bool true))
        clear b1 hb3 hb43 hk3 hby3
        go_upto_region 27 with fail
        generalize (World.setCell _ ⟨m, 0, none⟩ (.bool true)) = W4 at *
        clear hm0 hfm
        go_wp2_with (first
          | (refine load_blk rfl 30 (.tmp 8) rfl m rfl 30 _ _ B1.out Tryz.underlying30 rfl (infoMkn _) ?_
             have c66 := B3.out.cell (rsc_tail { s with lost := y } 0 (by omega)))
          | (refine store_part rfl 30 (.tmp 87) (.tmp 82) rfl w.heap.size 2 rfl 32 _ _ rfl B3.out (by rw [mkc_len, rsc_len]; omega) (infoMkn _) (mkc_one _) ?_
             intro w5 hb5 hk5
             clear c66
             rw [rsc_marks] at hb5
             have hf5 := hb5.free
             have c66 := hb5.cell (rsc_tail { s with lost := y, bits := setB (shlB s.bits k) 0 } 0 (by omega))
             have c61 := hb5.cell (i := 1) (v := .int .u32 s.top) (by simp [rsc])
             have e6 := (hb5.set 1 (.int .u32 n)).set 66 (.int .i64 (s.came + 1))
             rw [rsc_set1, rsc_set66] at e6
             have E6 := Lib.hid e6
             have E46 := Lib.hid (((hk5.blk B43.out (by simp)).set_ne (a := ⟨w.heap.size, 1, none⟩) (by simp) (.int .u32 n)).set_ne (a := ⟨w.heap.size, 66, none⟩) (by simp) (.int .i64 (s.came + 1)))
             have K6 := Lib.hid (((Kept.behind K3.out hk5 (by omega)).setCell (p := ⟨w.heap.size, 1, none⟩) (.inr (by simp)) (.int .u32 n)).setCell (p := ⟨w.heap.size, 66, none⟩) (.inr (by simp)) (.int .i64 (s.came + 1)))
             clear e6 hb5 hk5)
          | refine load_blk rfl 32 (.tmp 2) rfl w.heap.size rfl 32 _ _ E6.out Tryz.underlying32 rfl (infoRsn _) ?_
          | (refine store_blk rfl 32 (.tmp 4) (.tmp 90) rfl (w.heap.size + 1) rfl 32 _ _ rfl E46.out (by rw [rsc_len, rsc_len]) (infoRsn _) (rsc_one _) ?_; intro w7 hb7 hk7))
        exact bodyPost_ret (ret_blk2 rfl _ (w.heap.size + 1) _ _ _ _ rfl rfl hb7 Tryz.underlying32 rfl (infoRsn _)) rfl ⟨by rw [z.out, ← hy.out]; rfl, Kept.behind K6.out hk7 (by omega)⟩
      · have h64i : (k : Int) ≤ 64 := by omega
        go_upto_region 26 with fail
        clear c5 hf hfm
        have hb3 := HB.out
        have hb43 := HB4.out
        have hby3 := HBY.out
        have hk3 := HK.out
        obtain ⟨y, hyx⟩ : ∃ y, y = x := ⟨_, rfl⟩
        rw [← hyx] at hb3
        have hy := Lib.hid (show y = s.lost + lz s.bits (min k 64) + (k - 64 : Nat) by have := hx2.out; omega)
        clear h64i hx2 hyx
        have ey := Lib.hid (show (rsc { s with lost := y }).length = 69 from rsc_len _)
        have b1 := hby3.set 0 (.bool true)
        rw [mrow_all, mkc_set _ _ (by omega)] at b1
        have hm0 := hby3.cell (i := 0) (v := .bool (decide (k ≤ 0 ∧ 0 < k + 64) && s.bits.testBit (0 - k))) (tab_get (by omega))
        have hfm := hby3.free
        have B1 := Lib.hid b1
        have B3 := Lib.hid (hb3.set_ne (a := ⟨m, 0, none⟩) (by simpa using hm1) (.bool true))
        have B43 := Lib.hid (hb43.set_ne (a := ⟨m, 0, none⟩) (by simpa using hm2) (.bool true))
        have K3 := Lib.hid (hk3.setCell (p := ⟨m, 0, none⟩) (.inr hm3) (.bool true))
        clear b1 hb3 hb43 hk3 hby3
        go_upto_region 27 with fail
        generalize (World.setCell _ ⟨m, 0, none⟩ (.bool true)) = W4 at *
        clear hm0 hfm
        go_wp2_with (first
          | (refine load_blk rfl 30 (.tmp 8) rfl m rfl 30 _ _ B1.out Tryz.underlying30 rfl (infoMkn _) ?_
             have c66 := B3.out.cell (rsc_tail { s with lost := y } 0 (by omega)))
          | (refine store_part rfl 30 (.tmp 87) (.tmp 82) rfl w.heap.size 2 rfl 32 _ _ rfl B3.out (by rw [mkc_len, rsc_len]; omega) (infoMkn _) (mkc_one _) ?_
             intro w5 hb5 hk5
             clear c66
             rw [rsc_marks] at hb5
             have hf5 := hb5.free
             have c66 := hb5.cell (rsc_tail { s with lost := y, bits := setB (shlB s.bits k) 0 } 0 (by omega))
             have c61 := hb5.cell (i := 1) (v := .int .u32 s.top) (by simp [rsc])
             have e6 := (hb5.set 1 (.int .u32 n)).set 66 (.int .i64 (s.came + 1))
             rw [rsc_set1, rsc_set66] at e6
             have E6 := Lib.hid e6
             have E46 := Lib.hid (((hk5.blk B43.out (by simp)).set_ne (a := ⟨w.heap.size, 1, none⟩) (by simp) (.int .u32 n)).set_ne (a := ⟨w.heap.size, 66, none⟩) (by simp) (.int .i64 (s.came + 1)))
             have K6 := Lib.hid (((Kept.behind K3.out hk5 (by omega)).setCell (p := ⟨w.heap.size, 1, none⟩) (.inr (by simp)) (.int .u32 n)).setCell (p := ⟨w.heap.size, 66, none⟩) (.inr (by simp)) (.int .i64 (s.came + 1)))
             clear e6 hb5 hk5)
          | refine load_blk rfl 32 (.tmp 2) rfl w.heap.size rfl 32 _ _ E6.out Tryz.underlying32 rfl (infoRsn _) ?_
          | (refine store_blk rfl 32 (.tmp 4) (.tmp 90) rfl (w.heap.size + 1) rfl 32 _ _ rfl E46.out (by rw [rsc_len, rsc_len]) (infoRsn _) (rsc_one _) ?_; intro w7 hb7 hk7))
        exact bodyPost_ret (ret_blk2 rfl _ (w.heap.size + 1) _ _ _ _ rfl rfl hb7 Tryz.underlying32 rfl (infoRsn _)) rfl ⟨by rw [z.out, ← hy.out]; rfl, Kept.behind K6.out hk7 (by omega)⟩
end Go.Proofs.YtgdofgckjkmhjaaGreat
