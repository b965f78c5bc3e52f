/- told of the program. -/
import Derived.Test.YtdfbofkdlgfblaaDoorSeB
import Derived.BigRegion
namespace Go.Proofs.YtdfbofkdlgfblaaDoor
open Go Go.RowKit
theorem cell_st {w : World} {b o x k : Nat} {v u : Value} (h : w.cell? ⟨b, o, none⟩ = some v) (hne : b ≠ x) : (w.setCell ⟨x, k, none⟩ u).cell? ⟨b, o, none⟩ = some v := by
  rw [((Kept.refl [x] w).setCell (p := ⟨x, k, none⟩) (.inl (by simp)) u).cell (block_lt_of_cell h) (by simpa using hne)]
  exact h
/-- The numbers of the first lines, as they lie. -/
structure HdR (w : World) (g : Nat) (r : Nat → Nat) (a b c d e f p q s t : Int) : Prop where
  g0 : w.cell? ⟨g, 0, none⟩ = some (.slice (some ⟨r 0, 0, none⟩) 3 (r 4))
  g1 : w.cell? ⟨g, 1, none⟩ = some (.slice (some ⟨r 1, 0, none⟩) 3 (r 5))
  g2 : w.cell? ⟨g, 2, none⟩ = some (.slice (some ⟨r 2, 0, none⟩) 2 (r 6))
  g3 : w.cell? ⟨g, 3, none⟩ = some (.slice (some ⟨r 3, 0, none⟩) 2 (r 7))
  a0 : w.cell? ⟨r 0, 0, none⟩ = some (.int .i64 a)
  a1 : w.cell? ⟨r 0, 1, none⟩ = some (.int .i64 b)
  a2 : w.cell? ⟨r 0, 2, none⟩ = some (.int .i64 c)
  b0 : w.cell? ⟨r 1, 0, none⟩ = some (.int .i64 d)
  b1 : w.cell? ⟨r 1, 1, none⟩ = some (.int .i64 e)
  b2 : w.cell? ⟨r 1, 2, none⟩ = some (.int .i64 f)
  c0 : w.cell? ⟨r 2, 0, none⟩ = some (.int .i64 p)
  c1 : w.cell? ⟨r 2, 1, none⟩ = some (.int .i64 q)
  d0 : w.cell? ⟨r 3, 0, none⟩ = some (.int .i64 s)
  d1 : w.cell? ⟨r 3, 1, none⟩ = some (.int .i64 t)
theorem HdR.kept {w w' : World} {g x : Nat} {r : Nat → Nat} {a b c d e f p q s t : Int} (h : HdR w g r a b c d e f p q s t) (hk : Kept [x] w w') (hg : g ≠ x) (h0 : r 0 ≠ x) (h1 : r 1 ≠ x) (h2 : r 2 ≠ x) (h3 : r 3 ≠ x) : HdR w' g r a b c d e f p q s t := by
  have key : ∀ {b o : Nat} {v : Value}, b ≠ x → w.cell? ⟨b, o, none⟩ = some v → w'.cell? ⟨b, o, none⟩ = some v := fun hb hc => by
    rw [hk.cell (block_lt_of_cell hc) (by simpa using hb)]
    exact hc
  exact ⟨key hg h.g0, key hg h.g1, key hg h.g2, key hg h.g3, key h0 h.a0, key h0 h.a1, key h0 h.a2, key h1 h.b0, key h1 h.b1, key h1 h.b2, key h2 h.c0, key h2 h.c1, key h3 h.d0, key h3 h.d1⟩
set_option maxRecDepth 100000 in
set_option maxHeartbeats 12800000 in
theorem told_any (g cap : Nat) (r : Nat → Nat) (a b c d e f p q s t : Int) (w : World) (hh : HdR w g r a b c d e f p q s t) (ha : smallI a = true) (hs : smallI s = true) (ht : smallI t = true) :
    Calls Tryd.prog 42 #[.slice (some ⟨g, 0, none⟩) 4 cap] w fun e' w' => e' = .returned (.tuple #[.agg (cfL s t a 0 b c d e f p q).toArray, .bool true]) ∧ Kept [] w w' := by
  have HM := hx (fun n w1 => small_any n w1)
  have hg : g < w.heap.size := block_lt_of_cell hh.g0
  have hr0 : r 0 < w.heap.size := block_lt_of_cell hh.a0
  have hr1 : r 1 < w.heap.size := block_lt_of_cell hh.b0
  have hr2 : r 2 < w.heap.size := block_lt_of_cell hh.c0
  have hr3 : r 3 < w.heap.size := block_lt_of_cell hh.d0
  have hua : IntKind.u32.wrap a = a := by
    simp only [smallI, Bool.and_eq_true, decide_eq_true_eq] at ha
    exact IntWalk.u32_in _ (by omega)
  have hus : IntKind.u32.wrap s = s := by
    simp only [smallI, Bool.and_eq_true, decide_eq_true_eq] at hs
    exact IntWalk.u32_in _ (by omega)
  have hut : IntKind.u32.wrap t = t := by
    simp only [smallI, Bool.and_eq_true, decide_eq_true_eq] at ht
    exact IntWalk.u32_in _ (by omega)
  have HW0 := hx hh
  clear hh
  have e1 := ha
  have e2 := hs
  have e3 := ht
  have HMa := hx (fun w1 => (by have h := small_any a w1; rwa [ha] at h : Calls Tryd.prog 51 #[.int .i64 a] w1 fun e w' => e = .returned (.bool true) ∧ w' = w1))
  have HMs := hx (fun w1 => (by have h := small_any s w1; rwa [hs] at h : Calls Tryd.prog 51 #[.int .i64 s] w1 fun e w' => e = .returned (.bool true) ∧ w' = w1))
  have HMt := hx (fun w1 => (by have h := small_any t w1; rwa [ht] at h : Calls Tryd.prog 51 #[.int .i64 t] w1 fun e w' => e = .returned (.bool true) ∧ w' = w1))
  clear e1 e2 e3 ha hs ht HM
  go_enter Tryd.func42, Tryd.ntmps42
  go_upto_region 2 with fail
  have HW1 := hx (((HW0.out.kept (x := w.heap.size) (((Kept.refl _ w).alloc _).alloc _) (by omega) (by omega) (by omega) (by omega) (by omega)) : HdR ((w.alloc (.cells (cfL 0 0 0 0 0 0 0 0 0 0 0).toArray 43)).alloc (.cells (cfL 0 0 0 0 0 0 0 0 0 0 0).toArray 43)) g r a b c d e f p q s t))
  have HB2 := hx ((Blk.at w w.heap.size rfl (cfL 0 0 0 0 0 0 0 0 0 0 0) 43).alloc (.cells (cfL 0 0 0 0 0 0 0 0 0 0 0).toArray 43))
  have HB4 := hx (Blk.at (w.alloc (.cells (cfL 0 0 0 0 0 0 0 0 0 0 0).toArray 43)) (w.heap.size + 1) (by simp) (cfL 0 0 0 0 0 0 0 0 0 0 0) 43)
  have HK1 := hx (((Kept.refl [] w).alloc (.cells (cfL 0 0 0 0 0 0 0 0 0 0 0).toArray 43)).alloc (.cells (cfL 0 0 0 0 0 0 0 0 0 0 0).toArray 43))
  have HNE := hx (show g ≠ w.heap.size + 1 ∧ r 0 ≠ w.heap.size + 1 ∧ r 1 ≠ w.heap.size + 1 ∧ r 2 ≠ w.heap.size + 1 ∧ r 3 ≠ w.heap.size + 1 ∧ w.heap.size ≠ w.heap.size + 1 from ⟨by omega, by omega, by omega, by omega, by omega, by omega⟩)
  clear HW0 hg hr0 hr1 hr2 hr3
  simp only [cfL] at HW1 HB2 HB4 HK1
  generalize World.alloc (World.alloc w _) _ = w1 at *
  have HBL := hx (show w.heap.size ≤ w.heap.size + 1 from Nat.le_succ _)
  generalize w.heap.size + 1 = b4 at *
  obtain ⟨g0, g1, g2, g3, a0, a1, a2, b0, b1, b2, c0, c1, d0, d1⟩ := HW1.out
  go_upto_region 4 with (first
    | (go_at_call 51; refine (HMa.out _).mono ?_; rintro e w7 ⟨rfl, rfl⟩)
    | (go_at_call 51; refine (HMs.out _).mono ?_; rintro e w7 ⟨rfl, rfl⟩)
    | (go_at_call 51; refine (HMt.out _).mono ?_; rintro e w7 ⟨rfl, rfl⟩))
  clear HMa HMs HMt
  obtain ⟨n0, n1, n2, n3, n4, n5⟩ := HNE.out
  clear g0 g1 g2 g3 a0 a1 a2 b0 b1 b2 c0 c1 d0 d1
  have HSK := hx (fun (w3 : World) (hk : Kept [b4] w7 w3) => show (fun w3 : World => w3.cell? ⟨g, 0, none⟩ = some (.slice (some ⟨r 0, 0, none⟩) 3 (r 4)) ∧ w3.cell? ⟨r 0, 0, none⟩ = some (.int .i64 a) ∧ w3.cell? ⟨r 0, 1, none⟩ = some (.int .i64 b) ∧ w3.cell? ⟨r 0, 2, none⟩ = some (.int .i64 c)) w3 from (fun h => ⟨h.g0, h.a0, h.a1, h.a2⟩) (HW1.out.kept hk n0 n1 n2 n3 n4))
  have HSS := hx (fun (w3 : World) (h : (fun w3 : World => w3.cell? ⟨g, 0, none⟩ = some (.slice (some ⟨r 0, 0, none⟩) 3 (r 4)) ∧ w3.cell? ⟨r 0, 0, none⟩ = some (.int .i64 a) ∧ w3.cell? ⟨r 0, 1, none⟩ = some (.int .i64 b) ∧ w3.cell? ⟨r 0, 2, none⟩ = some (.int .i64 c)) w3) (k : Nat) (v : Value) => show (fun w3 : World => w3.cell? ⟨g, 0, none⟩ = some (.slice (some ⟨r 0, 0, none⟩) 3 (r 4)) ∧ w3.cell? ⟨r 0, 0, none⟩ = some (.int .i64 a) ∧ w3.cell? ⟨r 0, 1, none⟩ = some (.int .i64 b) ∧ w3.cell? ⟨r 0, 2, none⟩ = some (.int .i64 c)) (w3.setCell ⟨b4, k, none⟩ v) from by
    obtain ⟨h0, h1, h2, h3⟩ := h
    exact ⟨cell_st h0 n0, cell_st h1 n1, cell_st h2 n1, cell_st h3 n1⟩)
  have x2 := HB4.out.cell (i := 2) rfl
  have f2 := HB4.out.free 2
  have x4 := HB4.out.cell (i := 4) rfl
  have f4 := HB4.out.free 4
  have x5 := HB4.out.cell (i := 5) rfl
  have f5 := HB4.out.free 5
  go_region_held3 (fun w3 : World => w3.cell? ⟨g, 0, none⟩ = some (.slice (some ⟨r 0, 0, none⟩) 3 (r 4)) ∧ w3.cell? ⟨r 0, 0, none⟩ = some (.int .i64 a) ∧ w3.cell? ⟨r 0, 1, none⟩ = some (.int .i64 b) ∧ w3.cell? ⟨r 0, 2, none⟩ = some (.int .i64 c)) (first | exact HSK.out _ ((Kept.refl [b4] w7).drew) | exact HSS.out _ (by assumption) _ _) (first | fail)
  have hk8 : Kept [b4] w7 (((w7.setCell ⟨b4, 2, none⟩ (.int .u32 a)).setCell ⟨b4, 4, none⟩ (.int .i64 b)).setCell ⟨b4, 5, none⟩ (.int .i64 c)).drew := ((((Kept.refl [b4] w7).setCell (.inl (by simp)) (.int .u32 a)).setCell (.inl (by simp)) (.int .i64 b)).setCell (.inl (by simp)) (.int .i64 c)).drew
  have HB48 := hx (show Blk (((w7.setCell ⟨b4, 2, none⟩ (.int .u32 a)).setCell ⟨b4, 4, none⟩ (.int .i64 b)).setCell ⟨b4, 5, none⟩ (.int .i64 c)).drew b4 [.int .u32 0, .int .u32 0, .int .u32 a, .int .i64 0, .int .i64 b, .int .i64 c, .int .i64 0, .int .i64 0, .int .i64 0, .int .i64 0, .int .i64 0] 43 from (((HB4.out.set 2 (.int .u32 a)).set 4 (.int .i64 b)).set 5 (.int .i64 c)).drew)
  have HB28 := hx (hk8.blk HB2.out (by simpa using n5))
  have HW8 := hx (HW1.out.kept hk8 n0 n1 n2 n3 n4)
  have HK8 := hx (HK1.out.trans hk8 (ds := []) (fun _ h => h) (fun x h => by simp at h; subst h; exact .inr HBL.out))
  clear hk8 HSK HSS x2 f2 x4 f4 x5 f5 HB4 HB2 HW1 HK1
  generalize World.drew _ = w8 at *
  go_upto_region 5 with fail
  have HSK := hx (fun (w3 : World) (hk : Kept [b4] w8 w3) => show (fun w3 : World => w3.cell? ⟨g, 1, none⟩ = some (.slice (some ⟨r 1, 0, none⟩) 3 (r 5)) ∧ w3.cell? ⟨r 1, 0, none⟩ = some (.int .i64 d) ∧ w3.cell? ⟨r 1, 1, none⟩ = some (.int .i64 e) ∧ w3.cell? ⟨r 1, 2, none⟩ = some (.int .i64 f)) w3 from (fun h => ⟨h.g1, h.b0, h.b1, h.b2⟩) (HW8.out.kept hk n0 n1 n2 n3 n4))
  have HSS := hx (fun (w3 : World) (h : (fun w3 : World => w3.cell? ⟨g, 1, none⟩ = some (.slice (some ⟨r 1, 0, none⟩) 3 (r 5)) ∧ w3.cell? ⟨r 1, 0, none⟩ = some (.int .i64 d) ∧ w3.cell? ⟨r 1, 1, none⟩ = some (.int .i64 e) ∧ w3.cell? ⟨r 1, 2, none⟩ = some (.int .i64 f)) w3) (k : Nat) (v : Value) => show (fun w3 : World => w3.cell? ⟨g, 1, none⟩ = some (.slice (some ⟨r 1, 0, none⟩) 3 (r 5)) ∧ w3.cell? ⟨r 1, 0, none⟩ = some (.int .i64 d) ∧ w3.cell? ⟨r 1, 1, none⟩ = some (.int .i64 e) ∧ w3.cell? ⟨r 1, 2, none⟩ = some (.int .i64 f)) (w3.setCell ⟨b4, k, none⟩ v) from by
    obtain ⟨h0, h1, h2, h3⟩ := h
    exact ⟨cell_st h0 n0, cell_st h1 n2, cell_st h2 n2, cell_st h3 n2⟩)
  have x6 := HB48.out.cell (i := 6) rfl
  have f6 := HB48.out.free 6
  have x7 := HB48.out.cell (i := 7) rfl
  have f7 := HB48.out.free 7
  have x8 := HB48.out.cell (i := 8) rfl
  have f8 := HB48.out.free 8
  go_region_held3 (fun w3 : World => w3.cell? ⟨g, 1, none⟩ = some (.slice (some ⟨r 1, 0, none⟩) 3 (r 5)) ∧ w3.cell? ⟨r 1, 0, none⟩ = some (.int .i64 d) ∧ w3.cell? ⟨r 1, 1, none⟩ = some (.int .i64 e) ∧ w3.cell? ⟨r 1, 2, none⟩ = some (.int .i64 f)) (first | exact HSK.out _ ((Kept.refl [b4] w8).drew) | exact HSS.out _ (by assumption) _ _) (first | fail)
  have hk9 : Kept [b4] w8 (((w8.setCell ⟨b4, 6, none⟩ (.int .i64 d)).setCell ⟨b4, 7, none⟩ (.int .i64 e)).setCell ⟨b4, 8, none⟩ (.int .i64 f)).drew := ((((Kept.refl [b4] w8).setCell (.inl (by simp)) (.int .i64 d)).setCell (.inl (by simp)) (.int .i64 e)).setCell (.inl (by simp)) (.int .i64 f)).drew
  have HB49 := hx (show Blk (((w8.setCell ⟨b4, 6, none⟩ (.int .i64 d)).setCell ⟨b4, 7, none⟩ (.int .i64 e)).setCell ⟨b4, 8, none⟩ (.int .i64 f)).drew b4 [.int .u32 0, .int .u32 0, .int .u32 a, .int .i64 0, .int .i64 b, .int .i64 c, .int .i64 d, .int .i64 e, .int .i64 f, .int .i64 0, .int .i64 0] 43 from (((HB48.out.set 6 (.int .i64 d)).set 7 (.int .i64 e)).set 8 (.int .i64 f)).drew)
  have HB29 := hx (hk9.blk HB28.out (by simpa using n5))
  have HW9 := hx (HW8.out.kept hk9 n0 n1 n2 n3 n4)
  have HK9 := hx (HK8.out.trans hk9 (ds := []) (fun _ h => h) (fun x h => by simp at h; subst h; exact .inr HBL.out))
  clear hk9 HSK HSS x6 f6 x7 f7 x8 f8 HB48 HB28 HW8 HK8
  generalize World.drew _ = w9 at *
  go_upto_region 6 with fail
  have HSK := hx (fun (w3 : World) (hk : Kept [b4] w9 w3) => show (fun w3 : World => w3.cell? ⟨g, 2, none⟩ = some (.slice (some ⟨r 2, 0, none⟩) 2 (r 6)) ∧ w3.cell? ⟨r 2, 0, none⟩ = some (.int .i64 p) ∧ w3.cell? ⟨r 2, 1, none⟩ = some (.int .i64 q)) w3 from (fun h => ⟨h.g2, h.c0, h.c1⟩) (HW9.out.kept hk n0 n1 n2 n3 n4))
  have HSS := hx (fun (w3 : World) (h : (fun w3 : World => w3.cell? ⟨g, 2, none⟩ = some (.slice (some ⟨r 2, 0, none⟩) 2 (r 6)) ∧ w3.cell? ⟨r 2, 0, none⟩ = some (.int .i64 p) ∧ w3.cell? ⟨r 2, 1, none⟩ = some (.int .i64 q)) w3) (k : Nat) (v : Value) => show (fun w3 : World => w3.cell? ⟨g, 2, none⟩ = some (.slice (some ⟨r 2, 0, none⟩) 2 (r 6)) ∧ w3.cell? ⟨r 2, 0, none⟩ = some (.int .i64 p) ∧ w3.cell? ⟨r 2, 1, none⟩ = some (.int .i64 q)) (w3.setCell ⟨b4, k, none⟩ v) from by
    obtain ⟨h0, h1, h2⟩ := h
    exact ⟨cell_st h0 n0, cell_st h1 n3, cell_st h2 n3⟩)
  have x9 := HB49.out.cell (i := 9) rfl
  have f9 := HB49.out.free 9
  have x10 := HB49.out.cell (i := 10) rfl
  have f10 := HB49.out.free 10
  go_region_held3 (fun w3 : World => w3.cell? ⟨g, 2, none⟩ = some (.slice (some ⟨r 2, 0, none⟩) 2 (r 6)) ∧ w3.cell? ⟨r 2, 0, none⟩ = some (.int .i64 p) ∧ w3.cell? ⟨r 2, 1, none⟩ = some (.int .i64 q)) (first | exact HSK.out _ ((Kept.refl [b4] w9).drew) | exact HSS.out _ (by assumption) _ _) (first | fail)
  have hk10 : Kept [b4] w9 ((w9.setCell ⟨b4, 9, none⟩ (.int .i64 p)).setCell ⟨b4, 10, none⟩ (.int .i64 q)).drew := (((Kept.refl [b4] w9).setCell (.inl (by simp)) (.int .i64 p)).setCell (.inl (by simp)) (.int .i64 q)).drew
  have HB410 := hx (show Blk ((w9.setCell ⟨b4, 9, none⟩ (.int .i64 p)).setCell ⟨b4, 10, none⟩ (.int .i64 q)).drew b4 [.int .u32 0, .int .u32 0, .int .u32 a, .int .i64 0, .int .i64 b, .int .i64 c, .int .i64 d, .int .i64 e, .int .i64 f, .int .i64 p, .int .i64 q] 43 from ((HB49.out.set 9 (.int .i64 p)).set 10 (.int .i64 q)).drew)
  have HB210 := hx (hk10.blk HB29.out (by simpa using n5))
  have HW10 := hx (HW9.out.kept hk10 n0 n1 n2 n3 n4)
  have HK10 := hx (HK9.out.trans hk10 (ds := []) (fun _ h => h) (fun x h => by simp at h; subst h; exact .inr HBL.out))
  clear hk10 HSK HSS x9 f9 x10 f10 HB49 HB29 HW9 HK9
  generalize World.drew _ = w10 at *
  go_upto_region 7 with fail
  have HSK := hx (fun (w3 : World) (hk : Kept [b4] w10 w3) => show (fun w3 : World => w3.cell? ⟨g, 3, none⟩ = some (.slice (some ⟨r 3, 0, none⟩) 2 (r 7)) ∧ w3.cell? ⟨r 3, 0, none⟩ = some (.int .i64 s) ∧ w3.cell? ⟨r 3, 1, none⟩ = some (.int .i64 t)) w3 from (fun h => ⟨h.g3, h.d0, h.d1⟩) (HW10.out.kept hk n0 n1 n2 n3 n4))
  have HSS := hx (fun (w3 : World) (h : (fun w3 : World => w3.cell? ⟨g, 3, none⟩ = some (.slice (some ⟨r 3, 0, none⟩) 2 (r 7)) ∧ w3.cell? ⟨r 3, 0, none⟩ = some (.int .i64 s) ∧ w3.cell? ⟨r 3, 1, none⟩ = some (.int .i64 t)) w3) (k : Nat) (v : Value) => show (fun w3 : World => w3.cell? ⟨g, 3, none⟩ = some (.slice (some ⟨r 3, 0, none⟩) 2 (r 7)) ∧ w3.cell? ⟨r 3, 0, none⟩ = some (.int .i64 s) ∧ w3.cell? ⟨r 3, 1, none⟩ = some (.int .i64 t)) (w3.setCell ⟨b4, k, none⟩ v) from by
    obtain ⟨h0, h1, h2⟩ := h
    exact ⟨cell_st h0 n0, cell_st h1 n4, cell_st h2 n4⟩)
  have x0 := HB410.out.cell (i := 0) rfl
  have f0 := HB410.out.free 0
  have x1 := HB410.out.cell (i := 1) rfl
  have f1 := HB410.out.free 1
  go_region_held3 (fun w3 : World => w3.cell? ⟨g, 3, none⟩ = some (.slice (some ⟨r 3, 0, none⟩) 2 (r 7)) ∧ w3.cell? ⟨r 3, 0, none⟩ = some (.int .i64 s) ∧ w3.cell? ⟨r 3, 1, none⟩ = some (.int .i64 t)) (first | exact HSK.out _ ((Kept.refl [b4] w10).drew) | exact HSS.out _ (by assumption) _ _) (first | fail)
  have hk11 : Kept [b4] w10 ((w10.setCell ⟨b4, 0, none⟩ (.int .u32 s)).setCell ⟨b4, 1, none⟩ (.int .u32 t)).drew := (((Kept.refl [b4] w10).setCell (.inl (by simp)) (.int .u32 s)).setCell (.inl (by simp)) (.int .u32 t)).drew
  have HB411 := hx (show Blk ((w10.setCell ⟨b4, 0, none⟩ (.int .u32 s)).setCell ⟨b4, 1, none⟩ (.int .u32 t)).drew b4 [.int .u32 s, .int .u32 t, .int .u32 a, .int .i64 0, .int .i64 b, .int .i64 c, .int .i64 d, .int .i64 e, .int .i64 f, .int .i64 p, .int .i64 q] 43 from ((HB410.out.set 0 (.int .u32 s)).set 1 (.int .u32 t)).drew)
  have HB211 := hx (hk11.blk HB210.out (by simpa using n5))
  have HW11 := hx (HW10.out.kept hk11 n0 n1 n2 n3 n4)
  have HK11 := hx (HK10.out.trans hk11 (ds := []) (fun _ h => h) (fun x h => by simp at h; subst h; exact .inr HBL.out))
  clear hk11 HSK HSS x0 f0 x1 f1 HB410 HB210 HW10 HK10
  generalize World.drew _ = w11 at *
  clear HW11
  go_wp2_with (first
    | (refine load_blk rfl 43 (.tmp 4) rfl b4 rfl 43 _ _ HB411.out Tryd.underlying43 rfl (by kernel_rfl) ?_)
    | (refine store_blk rfl 43 (.tmp 2) (.tmp 100) rfl w.heap.size rfl 43 _ (cfL s t a 0 b c d e f p q) rfl HB211.out rfl (by kernel_rfl) (cf_one _ _ _ _ _ _ _ _ _ _ _) ?_; intro w12 hb12 hk12; have HB12 := hx hb12; have HK12 := hx hk12; clear hb12 hk12))
  exact bodyPost_ret (ret_blk2 rfl _ w.heap.size _ _ _ _ rfl rfl HB12.out Tryd.underlying43 rfl (by kernel_rfl)) rfl ⟨rfl, HK11.out.trans HK12.out (fun _ h => h) (fun x h => by simp at h; subst h; exact .inr (Nat.le_refl _))⟩
end Go.Proofs.YtdfbofkdlgfblaaDoor
