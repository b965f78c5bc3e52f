/- The law of lines. -/
import Derived.Test.YtdfbofkdlgfblaaDoorScN
import Derived.Test.YtdfbofkdlgfblaaDoorScS
namespace Go.Proofs.YtdfbofkdlgfblaaDoor
open Go Go.RowKit
theorem parse_six {l : List UInt8} {x : List Int} (h : parseL l = some x) : x.length = 6 := by
  unfold parseL at h
  cases hs : splitL l with
  | nil => rw [hs] at h; simp [parseW] at h
  | cons w r =>
    rw [hs, parseW] at h
    cases hk : kindOf w with
    | none => rw [hk] at h; simp at h
    | some k =>
      rw [hk] at h
      simp only [parseK] at h
      split at h
      · cases hr : readAll r with
        | none => rw [hr] at h; simp at h
        | some ns =>
          rw [hr] at h
          simp only [Option.some.injEq] at h
          rw [← h, putF_len]
          rfl
      · simp at h
theorem line_small {x : List Int} {s : List UInt8} (h64 : ∀ n, n ∈ x → in64 n) (h : lineL x = some s) : s.length ≤ 105 := by
  unfold lineL at h
  split at h
  · simp at h
  · split at h
    · simp only [Option.some.injEq] at h
      rw [← h]
      exact line_len _ (getF_in h64 _) (by rw [getF_len]; exact fld_len _)
    · simp at h
/-- An answer of ParseLine, spelt out. -/
def resW (y0 y1 y2 y3 y4 y5 : Int) (b : Bool) : Value := .tuple #[.agg #[.int .i64 y0, .int .i64 y1, .int .i64 y2, .int .i64 y3, .int .i64 y4, .int .i64 y5], .bool b]
theorem res_six (l : List UInt8) : ∃ y0 y1 y2 y3 y4 y5 b, resV (parseL l) = resW y0 y1 y2 y3 y4 y5 b := by
  cases h : parseL l with
  | none => exact ⟨0, 0, 0, 0, 0, 0, false, rfl⟩
  | some x =>
    obtain ⟨k, p, a, b, c, d, rfl⟩ := six (parse_six h)
    exact ⟨k, p, a, b, c, d, true, rfl⟩
set_option maxRecDepth 100000 in
set_option maxHeartbeats 12800000 in
theorem lines_law (k p a b c d : Int) (l : List UInt8) (m : Int) (w : World) (h64 : ∀ n, n ∈ [k, p, a, b, c, d] → in64 n) (hl : l.length < 4294967281) (hm : w.cell? ⟨0, 0, none⟩ = some (.int .i64 m)) :
    Calls Tryd.prog 4 #[actV [k, p, a, b, c, d], txt l] w fun e w' => e = .returned (.bool true) ∧ Kept [] w w' := by
  have HM := hx (fun w1 (hk : Kept [] w w1) => by rw [hk.cell (World.block_lt_of_cell? _ _ hm) (by simp)]; exact hm : ∀ w1, Kept [] w w1 → w1.cell? ⟨0, 0, none⟩ = some (.int .i64 m))
  have HA := hx (fun w1 (hk : Kept [] w w1) => awake_any m w1 (HM.out w1 hk))
  have HP := hx (fun w1 => pline_any k p a b c d w1 h64)
  have HQ := hx (fun w1 => rline_any k p a b c d w1 h64)
  have HX := hx (fun w1 (hk : Kept [] w w1) => parse_any l m w1 hl (HM.out w1 hk))
  have HY := hx (fun w1 => rparse_any l w1)
  obtain ⟨y0, y1, y2, y3, y4, y5, fb, hy⟩ := res_six l
  rw [← parse_eq, hy] at HY
  rw [hy] at HX
  simp only [resW] at HX HY
  show Calls _ _ #[.agg #[.int .i64 k, .int .i64 p, .int .i64 a, .int .i64 b, .int .i64 c, .int .i64 d], txt l] w _
  cases hL : lineL [k, p, a, b, c, d] with
  | none =>
    rw [hL] at HP HQ
    simp only [lineV, actV, ints, List.map_cons, List.map_nil] at HP HQ
    clear hm hl h64 hy hL
    go_enter Tryd.func4, Tryd.ntmps4
    go_upto_region 3 with (go_at_call 8; refine (HA.out _ ((Kept.refl [] w).alloc _)).mono ?_; rintro e w1 ⟨rfl, hk⟩; have K1 := hx (((Kept.refl [] w).alloc _).trans0 hk); have HB := hx (hk.blk (Blk.new w (ints [k, p, a, b, c, d]) 28) (by simp)); clear hk)
    generalize w.heap.size = b0 at *
    go_upto_region 4 with (first
      | (refine load_blk rfl 28 (.tmp 2) rfl b0 rfl 28 _ _ HB.out Tryd.underlying28 rfl (infoAct' _ rfl) ?_)
      | (go_at_call 13; refine (HP.out _).mono ?_; rintro e w2 ⟨rfl, hk⟩; have K2 := hx (K1.out.trans0 hk); have HB2 := hx (hk.blk HB.out (by simp)); clear hk))
    go_upto_region 7 with (first
      | (refine load_blk rfl 28 (.tmp 2) rfl b0 rfl 28 _ _ HB2.out Tryd.underlying28 rfl (infoAct' _ rfl) ?_)
      | (go_at_call 14; refine (HQ.out _).mono ?_; rintro e w3 ⟨rfl, hk⟩; have K3 := hx (K2.out.trans0 hk); have HB3 := hx (hk.blk HB2.out (by simp)); clear hk))
    clear HB HB2 K1 K2 HA HP HQ
    go_upto_region 8 with (go_at_call 15; refine (HX.out _ K3.out).mono ?_; rintro e w4 ⟨rfl, hk⟩; have K4 := hx ((K3.out.trans0 hk).alloc (.cells #[.int .i64 y0, .int .i64 y1, .int .i64 y2, .int .i64 y3, .int .i64 y4, .int .i64 y5] 28)); have HB4 := hx ((hk.blk HB3.out (by simp)).alloc (.cells #[.int .i64 y0, .int .i64 y1, .int .i64 y2, .int .i64 y3, .int .i64 y4, .int .i64 y5] 28)); have HY4 := hx (Blk.new w4 [.int .i64 y0, .int .i64 y1, .int .i64 y2, .int .i64 y3, .int .i64 y4, .int .i64 y5] 28); clear hk)
    generalize w4.heap.size = b9 at *
    go_upto_region 9 with (go_at_call 16; refine (HY.out _).mono ?_; rintro e w5 ⟨rfl, hk⟩; have K5 := hx ((K4.out.trans0 hk).alloc (.cells #[.int .i64 y0, .int .i64 y1, .int .i64 y2, .int .i64 y3, .int .i64 y4, .int .i64 y5] 28)); have HB5 := hx ((hk.blk HB4.out (by simp)).alloc (.cells #[.int .i64 y0, .int .i64 y1, .int .i64 y2, .int .i64 y3, .int .i64 y4, .int .i64 y5] 28)); have HY5 := hx ((hk.blk HY4.out (by simp)).alloc (.cells #[.int .i64 y0, .int .i64 y1, .int .i64 y2, .int .i64 y3, .int .i64 y4, .int .i64 y5] 28)); have HZ5 := hx (Blk.new w5 [.int .i64 y0, .int .i64 y1, .int .i64 y2, .int .i64 y3, .int .i64 y4, .int .i64 y5] 28); clear hk)
    generalize w5.heap.size = b11 at *
    generalize World.alloc w5 (.cells #[.int .i64 y0, .int .i64 y1, .int .i64 y2, .int .i64 y3, .int .i64 y4, .int .i64 y5] 28) = W5 at *
    clear HX HY HB3 HB4 HY4 K3 K4
    go_wp2_with (first
      | (refine load_blk rfl 28 (.tmp 9) rfl b9 rfl 28 _ _ HY5.out Tryd.underlying28 rfl (infoAct' (([y0, y1, y2, y3, y4, y5] : List Int)) rfl) ?_)
      | (refine load_blk rfl 28 (.tmp 11) rfl b11 rfl 28 _ _ HZ5.out Tryd.underlying28 rfl (infoAct' (([y0, y1, y2, y3, y4, y5] : List Int)) rfl) ?_))
    go_ret
    exact ⟨rfl, K5.out⟩
  | some s =>
    rw [hL] at HP HQ
    simp only [lineV, actV, ints, List.map_cons, List.map_nil] at HP HQ
    have hps := parse_line (x := [k, p, a, b, c, d]) rfl h64 hL
    have hsl : s.length < 4294967281 := by have := line_small h64 hL; omega
    have HV := hx (fun w1 (hk : Kept [] w w1) => parse_any s m w1 hsl (HM.out w1 hk))
    rw [hps] at HV
    simp only [resV, actV, ints, List.map_cons, List.map_nil] at HV
    clear hm hl h64 hy hL hps hsl
    go_enter Tryd.func4, Tryd.ntmps4
    go_upto_region 3 with (go_at_call 8; refine (HA.out _ ((Kept.refl [] w).alloc _)).mono ?_; rintro e w1 ⟨rfl, hk⟩; have K1 := hx (((Kept.refl [] w).alloc _).trans0 hk); have HB := hx (hk.blk (Blk.new w (ints [k, p, a, b, c, d]) 28) (by simp)); clear hk)
    generalize w.heap.size = b0 at *
    go_upto_region 4 with (first
      | (refine load_blk rfl 28 (.tmp 2) rfl b0 rfl 28 _ _ HB.out Tryd.underlying28 rfl (infoAct' _ rfl) ?_)
      | (go_at_call 13; refine (HP.out _).mono ?_; rintro e w2 ⟨rfl, hk⟩; have K2 := hx (K1.out.trans0 hk); have HB2 := hx (hk.blk HB.out (by simp)); clear hk))
    go_upto_region 7 with (first
      | (refine load_blk rfl 28 (.tmp 2) rfl b0 rfl 28 _ _ HB2.out Tryd.underlying28 rfl (infoAct' _ rfl) ?_)
      | (go_at_call 14; refine (HQ.out _).mono ?_; rintro e w3 ⟨rfl, hk⟩; have K3 := hx (K2.out.trans0 hk); have HB3 := hx (hk.blk HB2.out (by simp)); clear hk))
    clear HB HB2 K1 K2 HA HP HQ
    go_upto_region 8 with (go_at_call 15; refine (HX.out _ K3.out).mono ?_; rintro e w4 ⟨rfl, hk⟩; have K4 := hx ((K3.out.trans0 hk).alloc (.cells #[.int .i64 y0, .int .i64 y1, .int .i64 y2, .int .i64 y3, .int .i64 y4, .int .i64 y5] 28)); have HB4 := hx ((hk.blk HB3.out (by simp)).alloc (.cells #[.int .i64 y0, .int .i64 y1, .int .i64 y2, .int .i64 y3, .int .i64 y4, .int .i64 y5] 28)); have HY4 := hx (Blk.new w4 [.int .i64 y0, .int .i64 y1, .int .i64 y2, .int .i64 y3, .int .i64 y4, .int .i64 y5] 28); clear hk)
    generalize w4.heap.size = b9 at *
    go_upto_region 9 with (go_at_call 16; refine (HY.out _).mono ?_; rintro e w5 ⟨rfl, hk⟩; have K5 := hx ((K4.out.trans0 hk).alloc (.cells #[.int .i64 y0, .int .i64 y1, .int .i64 y2, .int .i64 y3, .int .i64 y4, .int .i64 y5] 28)); have HB5 := hx ((hk.blk HB4.out (by simp)).alloc (.cells #[.int .i64 y0, .int .i64 y1, .int .i64 y2, .int .i64 y3, .int .i64 y4, .int .i64 y5] 28)); have HY5 := hx ((hk.blk HY4.out (by simp)).alloc (.cells #[.int .i64 y0, .int .i64 y1, .int .i64 y2, .int .i64 y3, .int .i64 y4, .int .i64 y5] 28)); have HZ5 := hx (Blk.new w5 [.int .i64 y0, .int .i64 y1, .int .i64 y2, .int .i64 y3, .int .i64 y4, .int .i64 y5] 28); clear hk)
    generalize w5.heap.size = b11 at *
    generalize World.alloc w5 (.cells #[.int .i64 y0, .int .i64 y1, .int .i64 y2, .int .i64 y3, .int .i64 y4, .int .i64 y5] 28) = W5 at *
    clear HX HY HB3 HB4 HY4 K3 K4
    go_upto_region 14 with (first
      | (refine load_blk rfl 28 (.tmp 9) rfl b9 rfl 28 _ _ HY5.out Tryd.underlying28 rfl (infoAct' (([y0, y1, y2, y3, y4, y5] : List Int)) rfl) ?_)
      | (refine load_blk rfl 28 (.tmp 11) rfl b11 rfl 28 _ _ HZ5.out Tryd.underlying28 rfl (infoAct' (([y0, y1, y2, y3, y4, y5] : List Int)) rfl) ?_)
      | (go_at_call 15; refine (HV.out _ K5.out).mono ?_; rintro e w6 ⟨rfl, hk⟩; have K6 := hx ((K5.out.trans0 hk).alloc (.cells #[.int .i64 k, .int .i64 p, .int .i64 a, .int .i64 b, .int .i64 c, .int .i64 d] 28)); have HB6 := hx ((hk.blk HB5.out (by simp)).alloc (.cells #[.int .i64 k, .int .i64 p, .int .i64 a, .int .i64 b, .int .i64 c, .int .i64 d] 28)); have HV6 := hx (Blk.new w6 [.int .i64 k, .int .i64 p, .int .i64 a, .int .i64 b, .int .i64 c, .int .i64 d] 28); clear hk))
    generalize w6.heap.size = b13 at *
    generalize World.alloc w6 (.cells #[.int .i64 k, .int .i64 p, .int .i64 a, .int .i64 b, .int .i64 c, .int .i64 d] 28) = W6 at *
    have c0 := HB6.out.cell (i := 0) rfl
    have c1 := HB6.out.cell (i := 1) rfl
    have c2 := HB6.out.cell (i := 2) rfl
    have c3 := HB6.out.cell (i := 3) rfl
    have c4 := HB6.out.cell (i := 4) rfl
    have c5 := HB6.out.cell (i := 5) rfl
    have e0 := HV6.out.cell (i := 0) rfl
    have e1 := HV6.out.cell (i := 1) rfl
    have e2 := HV6.out.cell (i := 2) rfl
    have e3 := HV6.out.cell (i := 3) rfl
    have e4 := HV6.out.cell (i := 4) rfl
    have e5 := HV6.out.cell (i := 5) rfl
    go_wp2_with fail
    go_ret
    exact ⟨rfl, K6.out⟩
end Go.Proofs.YtdfbofkdlgfblaaDoor
