/- Line of the document. -/
import Derived.Test.YtdfbofkdlgfblaaDoorScJa
import Derived.Test.YtdfbofkdlgfblaaDoorScJb
import Derived.Test.YtdfbofkdlgfblaaDoorScJc
namespace Go.Proofs.YtdfbofkdlgfblaaDoor
open Go Go.RowKit
theorem line_out {k p a b c d : Int} (h : ¬ (1 ≤ k ∧ k ≤ 8)) : lineL [k, p, a, b, c, d] = none := by
  unfold lineL
  rw [List.getD_cons_zero]
  exact if_pos (by
    cases hw : wordL k with
    | nil => rfl
    | cons x y => exact absurd (word_kind (by rw [hw]; simp)) h)
set_option maxRecDepth 100000 in
set_option maxHeartbeats 12800000 in
theorem fields_out (k p a b c d : Int) (w : World) (h : ¬ (1 ≤ k ∧ k ≤ 8)) : Calls Tryd.prog 28 #[actV [k, p, a, b, c, d]] w fun e w' => FldQ [k, p, a, b, c, d] w w' e := by
  have HO := hx (line_out (p := p) (a := a) (b := b) (c := c) (d := d) h)
  have h1 : (k == 1) = false := by simp; omega
  have h2 : (k == 2) = false := by simp; omega
  have h3 : (k == 3) = false := by simp; omega
  have h4 : (k == 4) = false := by simp; omega
  have h5 : (k == 5) = false := by simp; omega
  have h6 : (k == 6) = false := by simp; omega
  have h7 : (k == 7) = false := by simp; omega
  have h8 : (k == 8) = false := by simp; omega
  clear h
  show Calls _ _ #[.agg #[.int .i64 k, .int .i64 p, .int .i64 a, .int .i64 b, .int .i64 c, .int .i64 d]] w _
  go_enter Tryd.func28, Tryd.ntmps28
  go_wp2_with fail
  all_goals
    go_ret3
    exact fld_no (wd := []) ((Kept.refl [] w).alloc _) HO.out
theorem fields_any (k p a b c d : Int) (w : World) : Calls Tryd.prog 28 #[actV [k, p, a, b, c, d]] w fun e w' => FldQ [k, p, a, b, c, d] w w' e := by
  by_cases h : 1 ≤ k ∧ k ≤ 8
  · rcases kind_cases h.1 h.2 with rfl | rfl | rfl | rfl | rfl | rfl | rfl | rfl
    · exact fields_1 p a b c d w
    · exact fields_2 p a b c d w
    · exact fields_3 p a b c d w
    · exact fields_4 p a b c d w
    · exact fields_5 p a b c d w
    · exact fields_6 p a b c d w
    · exact fields_7 p a b c d w
    · exact fields_8 p a b c d w
  · exact fields_out k p a b c d w h
theorem getF_in {x : List Int} (h : ∀ n, n ∈ x → in64 n) (fs : List UInt8) : ∀ n, n ∈ getF x fs → in64 n := by
  intro n hn
  obtain ⟨f, _, rfl⟩ := List.mem_map.1 hn
  by_cases hc : cellN f < x.length
  · rw [List.getD_eq_getElem?_getD, List.getElem?_eq_getElem hc]
    exact h _ (List.getElem_mem hc)
  · rw [List.getD_eq_getElem?_getD, List.getElem?_eq_none (by omega)]
    unfold in64
    decide
theorem getF_len (x : List Int) (fs : List UInt8) : (getF x fs).length = fs.length := by simp [getF]
/-- What Line answers. -/
def lineV : Option (List UInt8) → Value
  | some s => .tuple #[txt s, .int .i64 0]
  | none => .tuple #[txt [], .int .i64 320]
set_option maxRecDepth 100000 in
set_option maxHeartbeats 12800000 in
/-- The document's Line. -/
theorem rline_any (k p a b c d : Int) (w : World) (h64 : ∀ n, n ∈ [k, p, a, b, c, d] → in64 n) :
    Calls Tryd.prog 14 #[actV [k, p, a, b, c, d]] w fun e w' => e = .returned (lineV (lineL [k, p, a, b, c, d])) ∧ Kept [] w w' := by
  have HF := hx (fun w1 => fields_any k p a b c d w1)
  have H64 := hx h64
  clear h64
  show Calls _ _ #[.agg #[.int .i64 k, .int .i64 p, .int .i64 a, .int .i64 b, .int .i64 c, .int .i64 d]] w _
  go_enter Tryd.func14, Tryd.ntmps14
  go_upto_region 2 with (go_at_call 28; refine (HF.out _).mono ?_; rintro e w1 ⟨hk, wd, a1, n, c1, ok, rfl, hno, hyes⟩)
  have HK := hx (((Kept.refl [] w).alloc _).trans0 hk)
  clear hk HF
  cases ok with
  | false =>
    have HN := hx (hno rfl)
    clear hno hyes
    go_wp2_with fail
    go_ret2
    exact ⟨by rw [HN.out]; rfl, HK.out⟩
  | true =>
    obtain ⟨rfl, rfl, hrw, hl⟩ := hyes rfl
    have HL := hx hl
    have HJ := hx (join_any (wordL k) _ a1 c1 w1 hrw (getF_in H64.out _) (by have := word_len k; omega) (by rw [getF_len]; have := fld_len k; simp only [List.getD_cons_zero]; omega))
    clear hl hrw hno hyes
    simp only [List.getD_cons_zero] at *
    go_wp2_with (go_at_call 29; refine HJ.out.mono ?_; rintro e w2 ⟨rfl, hk2⟩; have HK2 := hx (HK.out.trans0 hk2); clear hk2)
    go_ret2
    exact ⟨by rw [HL.out, ← accL_line]; rfl, HK2.out⟩
end Go.Proofs.YtdfbofkdlgfblaaDoor
