/- Codes: first, and a product that may not be. -/
import Derived.Test.YtjgnngnknhkpmaaMatN
namespace Go.Proofs.Ytjgnngnknhkpmaa
open Go Go.RowKit
theorem infoInt : (Try.prog.info? 3).map (fun i => (i.zero, i.size, i.bytes)) = some (some (.int .i64 0), 1, 8) := by kernel_rfl
theorem makeI (n : Nat) (h : n ≤ 1000) (w : World) : (Instr.makeSlice 43 (.int .i64 (n : Int)) (.int .i64 (n : Int))).run Try.prog w = .ok (.slice (some ⟨w.heap.size, 0, none⟩) n n) (w.alloc (.cells (madeCells #[.int .i64 0] n) 3)) := by
  obtain ⟨i0, hi, hz0, hz1, hz2⟩ := info_parts infoInt
  have hr := run_make (P := Try.prog) w 43 3 i0 (.int .i64 0) Try.underlying43 hi hz0 .i64 .i64 n n (by omega) (by omega) (by rw [hz2]; omega) (by omega)
  rw [hz1] at hr
  simp only [Int.toNat_natCast, Nat.mul_one] at hr
  exact hr
def firS (n i : Nat) : List Value := tab n fun j => .int .i64 ((if j < i then j else 0 : Nat) : Int)
theorem firS_0 (n : Nat) : (madeCells #[.int .i64 0] n).toList = firS n 0 := by
  rw [toList_madeCells_one]
  refine tab_eq (by simp) fun i hi => ?_
  rw [List.getElem?_replicate, if_pos hi]
  simp
theorem firS_step (n i : Nat) (hi : i < n) : (firS n i).set i (.int .i64 (i : Int)) = firS n (i + 1) :=
  tab_set hi (by simp) fun j _ hj => by
    by_cases h : j < i
    · rw [if_pos h, if_pos (by omega)]
    · rw [if_neg h, if_neg (by omega)]
theorem firS_in {w : World} {g n : Nat} (hb : Blk w g (firS n n) 3) : In w (some ⟨g, 0, none⟩) (List.range n) := fun i hi => by
  rw [List.length_range] at hi
  refine ⟨g, 0, rfl, ?_⟩
  rw [Nat.zero_add, hb.cell?_at, firS, tab_get hi, if_pos hi, List.getD_eq_getElem?_getD, List.getElem?_eq_getElem (by simpa using hi), List.getElem_range]
  rfl
set_option maxRecDepth 100000 in
set_option maxHeartbeats 1600000 in
theorem first_any (n : Nat) (w : World) (hn : n ≤ 255) :
    Calls Try.prog 28 #[.int .i64 n] w fun e w' => ∃ a, e = .returned (.slice a n n) ∧ In w' a (List.range n) ∧ Kept [] w w' := by
  have hmk := makeI n (by omega)
  have B0 := hx (show Blk (w.alloc (.cells (madeCells #[.int .i64 0] n) 3)) w.heap.size (firS n 0) 3 by
    have h := Blk.new' w (madeCells #[.int .i64 0] n) 3
    rw [firS_0] at h
    exact h)
  have K0 := hx ((Kept.refl [] w).alloc (.cells (madeCells #[.int .i64 0] n) 3))
  have hni : (n : Int) ≤ 255 := by omega
  go_enter Try.func28, Try.ntmps28
  go_upto_region 2 with fail
  clear hmk
  generalize w.alloc (.cells (madeCells #[.int .i64 0] n) 3) = W at *
  go_wp2_with fail
  go_loopw [9] (fun iv wr => ∃ i : Nat, i ≤ n ∧ iv = .int .i64 i ∧ Blk wr w.heap.size (firS n i) 3 ∧ Kept [] w wr) (fun iv _ => n - (intOf iv).toNat)
  case atStart => exact ⟨0, by omega, rfl, B0.out, K0.out⟩
  case round =>
    clear B0 K0
    obtain ⟨i, hi, rfl, hb, hk⟩ := hrel
    have HB := hx hb
    have HK := hx hk
    clear hb hk
    by_cases hlt : i < n
    · have hj : (i : Int) < (n : Int) := by omega
      have c1 := HB.out.cell (i := i) (v := _) (tab_get hlt)
      have f1 := HB.out.free
      have HB2 := hx (show Blk (wr.setCell ⟨w.heap.size, i, none⟩ (.int .i64 (i : Int))) w.heap.size (firS n (i + 1)) 3 by rw [← firS_step n i hlt]; exact HB.out.set i _)
      have HK2 := hx (HK.out.setCell (p := ⟨w.heap.size, i, none⟩) (.inr (Nat.le_refl _)) (.int .i64 (i : Int)))
      clear HB HK
      go_wp2_with fail
      go_roundw
      case rel => exact ⟨i + 1, by omega, by go_num, HB2.out, HK2.out⟩
      case measure => simp [intOf] <;> omega
    · obtain rfl : i = n := by omega
      go_wp2_with fail
      go_ret
      exact ⟨_, rfl, firS_in HB.out, HK.out⟩
/-- Right of the matrix without anything. -/
theorem right0_any (w : World) :
    Calls Try.prog 45 #[.agg #[.int .i64 0, .int .i64 0, .slice none 0 0]] w fun e w' => e = .returned (.bool true) ∧ Kept [] w w' := by
  have hk := (Kept.refl [] w).alloc (.cells #[.int .i64 0, .int .i64 0, .slice none 0 0] 41)
  go_enter Try.func45, Try.ntmps45
  go_wp2
  go_ret
  exact ⟨rfl, hk⟩
set_option maxRecDepth 100000 in
set_option maxHeartbeats 1600000 in
theorem mmul0_any (t ba ra ca capa : Nat) (w : World) (hra : ra ≤ 255) (hca : ca ≤ 255) (hca0 : 1 ≤ ca) :
    Calls Try.prog 30 #[.pointer (some ⟨t, 0, none⟩), mv ba ra ca capa, .agg #[.int .i64 0, .int .i64 0, .slice none 0 0]] w fun e w' => e = .returned (.tuple #[.agg #[.int .i64 0, .int .i64 0, .slice none 0 0], .int .i64 50]) ∧ Kept [] w w' := by
  have hz := zeroMx
  have HRA := hx (fun w => right_any ba ra ca capa w hra hca)
  have H3 := hx (three_new w [.int .i64 (ra : Int), .int .i64 (ca : Int), .slice (some ⟨ba, 0, none⟩) (ra * ca) capa] [.int .i64 0, .int .i64 0, .slice none 0 0] [.int .i64 0, .int .i64 0, .slice none 0 0] 41)
  have hcn : ((ca : Int) != 0) = true := bne_iff_ne.2 (by omega)
  unfold mv at *
  go_enter Try.func30, Try.ntmps30
  go_wp2_with fail
  generalize ((w.alloc (.cells #[.int .i64 (ra : Int), .int .i64 (ca : Int), .slice (some ⟨ba, 0, none⟩) (ra * ca) capa] 41)).alloc (.cells #[.int .i64 0, .int .i64 0, .slice none 0 0] 41)).alloc (.cells #[.int .i64 0, .int .i64 0, .slice none 0 0] 41) = W0 at *
  refine (HRA.out W0).mono ?_
  rintro e w1 ⟨rfl, hk1⟩
  have K1 := hx (H3.out.2.2.2.trans0 hk1)
  have D0 := hx (hk1.blk H3.out.1 (by simp))
  have D1 := hx (hk1.blk H3.out.2.1 (by simp))
  have D2 := hx (hk1.blk H3.out.2.2.1 (by simp))
  clear hk1 H3 HRA
  have c10 := D1.out.cell (i := 0) rfl
  have c11 := D1.out.cell (i := 1) rfl
  have c12 := D1.out.cell (i := 2) rfl
  go_wp2_with fail
  refine (right0_any w1).mono ?_
  rintro e w2 ⟨rfl, hk2⟩
  have K2 := hx (K1.out.trans0 hk2)
  have D02 := hx (hk2.blk D0.out (by simp))
  have D12 := hx (hk2.blk D1.out (by simp))
  have D22 := hx (hk2.blk D2.out (by simp))
  clear hk2 D0 D1 D2 K1 c10 c11 c12
  have c01 := D02.out.cell (i := 1) rfl
  have c10 := D12.out.cell (i := 0) rfl
  have ct0 := D22.out.cell (i := 0) rfl
  have ct1 := D22.out.cell (i := 1) rfl
  have ct2 := D22.out.cell (i := 2) rfl
  have hf := D22.out.free
  have hbz : Blk (((w2.setCell ⟨w.heap.size + 2, 0, none⟩ (.int .i64 0)).setCell ⟨w.heap.size + 2, 1, none⟩ (.int .i64 0)).setCell ⟨w.heap.size + 2, 2, none⟩ (.slice none 0 0)) (w.heap.size + 2) [.int .i64 0, .int .i64 0, .slice none 0 0] 41 := ((D22.out.set 0 _).set 1 _).set 2 _
  have hkz : Kept [w.heap.size + 2] w2 (((w2.setCell ⟨w.heap.size + 2, 0, none⟩ (.int .i64 0)).setCell ⟨w.heap.size + 2, 1, none⟩ (.int .i64 0)).setCell ⟨w.heap.size + 2, 2, none⟩ (.slice none 0 0)) := (((Kept.refl [w.heap.size + 2] w2).setCell (p := ⟨w.heap.size + 2, 0, none⟩) (.inl (by simp)) _).setCell (p := ⟨w.heap.size + 2, 1, none⟩) (.inl (by simp)) _).setCell (p := ⟨w.heap.size + 2, 2, none⟩) (.inl (by simp)) _
  have HBZ := hx (And.intro hbz hkz)
  clear hbz hkz
  go_wp2_with fail
  refine bodyPost_ret (ret_cq rfl _ (w.heap.size + 2) _ _ _ _ rfl rfl HBZ.out.1 Try.underlying41 rfl infoMx) rfl ?_
  exact ⟨rfl, K2.out.trans HBZ.out.2 (fun _ h => by simp at h) (fun x hx => by simp at hx; right; omega)⟩
end Go.Proofs.Ytjgnngnknhkpmaa
