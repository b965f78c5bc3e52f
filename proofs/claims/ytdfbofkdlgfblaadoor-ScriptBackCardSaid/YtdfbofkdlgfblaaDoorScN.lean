/- The page's examples, and the law of numbers. -/
import Derived.Test.YtdfbofkdlgfblaaDoorScH
import Derived.BigGuardPart
namespace Go.Proofs.YtdfbofkdlgfblaaDoor
open Go Go.RowKit
theorem parse_tick : parseL [116, 105, 99, 107, 32, 51] = some [1, 0, 3, 0, 0, 0] := by decide +kernel
theorem read_m0 : progR [45, 48] = (0, false) := by decide +kernel
theorem num_m12 : numL (-12) = [45, 49, 50] := by decide +kernel
set_option maxRecDepth 100000 in
set_option maxHeartbeats 6400000 in
theorem awake_any (m : Int) (w : World) (hm : w.cell? ⟨0, 0, none⟩ = some (.int .i64 m)) :
    Calls Tryd.prog 8 #[] w fun e w' => e = .returned (.bool true) ∧ Kept [] w w' := by
  have HT := hx (parse_any [116, 105, 99, 107, 32, 51] m w (by decide) hm)
  rw [parse_tick, show resV (some [1, 0, 3, 0, 0, 0]) = .tuple #[.agg #[.int .i64 1, .int .i64 0, .int .i64 3, .int .i64 0, .int .i64 0, .int .i64 0], .bool true] from rfl] at HT
  have HR := hx (fun w1 => read_any [45, 48] w1)
  rw [read_m0] at HR
  have HN := hx (fun w1 => num_any (-12) w1 (by unfold in64; omega))
  rw [num_m12] at HN
  clear hm
  go_enter Tryd.func8, Tryd.ntmps8
  go_upto_region 2 with (go_at_call 15; refine HT.out.mono ?_; rintro e w1 ⟨rfl, hk1⟩; have HK1 := hx hk1; clear hk1)
  have hal := Blk.new w1 [.int .i64 1, .int .i64 0, .int .i64 3, .int .i64 0, .int .i64 0, .int .i64 0] 28
  have HKA := hx (HK1.out.alloc (.cells #[.int .i64 1, .int .i64 0, .int .i64 3, .int .i64 0, .int .i64 0, .int .i64 0] 28))
  have HG := hx hal
  clear hal HT
  go_upto_region 3 with (go_at_call 10; refine (HR.out _).mono ?_; rintro e w2 ⟨rfl, hk2⟩; have HK2 := hx (HKA.out.trans0 hk2); have HB2 := hx (hk2.blk HG.out (by simp)); clear hk2)
  have HN2 := hx (HN.out w2)
  generalize w1.heap.size = g at *
  clear HG HKA HR HN
  have c0 := HB2.out.cell (i := 0) rfl
  have c1 := HB2.out.cell (i := 1) rfl
  have c2 := HB2.out.cell (i := 2) rfl
  have c3 := HB2.out.cell (i := 3) rfl
  have c4 := HB2.out.cell (i := 4) rfl
  have c5 := HB2.out.cell (i := 5) rfl
  go_wp2_with (go_at_call 9; refine HN2.out.mono ?_; rintro e w3 ⟨rfl, hk3⟩; have HK3 := hx (HK2.out.trans0 hk3); clear hk3)
  go_ret
  exact ⟨rfl, HK3.out⟩
theorem wf64 {a : Int} (h : (Lit.int .i64 a).wf = true) : in64 a := by
  simp [Lit.wf, IntKind.min, IntKind.max, IntKind.signed, IntKind.bits] at h
  exact ⟨by omega, by omega⟩
set_option maxRecDepth 100000 in
set_option maxHeartbeats 6400000 in
/-- The law of numbers. -/
theorem numbers_law (n : Int) (l : List UInt8) (m : Int) (w : World) (hn : in64 n) (hm : w.cell? ⟨0, 0, none⟩ = some (.int .i64 m)) :
    Calls Tryd.prog 3 #[.int .i64 n, txt l] w fun e w' => e = .returned (.bool true) ∧ Kept [] w w' := by
  have HA := hx (awake_any m w hm)
  have H1 := hx (fun w1 => num_any n w1 hn)
  have H2 := hx (fun w1 => read_any (numL n) w1)
  rw [progR_num hn] at H2
  have H3 := hx (fun w1 => rnum_any n w1 hn)
  have H4 := hx (fun w1 => read_any l w1)
  have H5 := hx (fun w1 => rread_any l w1)
  rw [← read_eq] at H5
  obtain ⟨v, b, hv⟩ : ∃ v b, progR l = (v, b) := ⟨_, _, rfl⟩
  rw [hv] at H4 H5
  clear hm hn hv
  go_enter Tryd.func3, Tryd.ntmps3
  go_upto_region 5 with (first
    | (go_at_call 8; refine HA.out.mono ?_; rintro e w1 ⟨rfl, hk⟩; have K1 := hx hk; clear hk)
    | (go_at_call 9; refine (H1.out _).mono ?_; rintro e w2 ⟨rfl, hk⟩; have K2 := hx (K1.out.trans0 hk); clear hk)
    | (go_at_call 10; refine (H2.out _).mono ?_; rintro e w3 ⟨rfl, hk⟩; have K3 := hx (K2.out.trans0 hk); clear hk))
  clear HA H1 H2 K1 K2
  go_wp2_with (first
    | (go_at_call 11; refine (H3.out _).mono ?_; rintro e w4 ⟨rfl, hk⟩; have K4 := hx (K3.out.trans0 hk); clear hk)
    | (go_at_call 10; refine (H4.out _).mono ?_; rintro e w5 ⟨rfl, hk⟩; have K5 := hx (K4.out.trans0 hk); clear hk)
    | (go_at_call 12; refine (H5.out _).mono ?_; rintro e w6 ⟨rfl, hk⟩; have K6 := hx (K5.out.trans0 hk); clear hk))
  go_ret
  exact ⟨rfl, K6.out⟩
end Go.Proofs.YtdfbofkdlgfblaaDoor
