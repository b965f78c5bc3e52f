/- The page's examples. -/
import Derived.Test.YtjgnngnknhkpmaaRsL
namespace Go.Proofs.Ytjgnngnknhkpmaa
open Go Go.RowKit
def R21 : List (List Nat) := [[1, 0], [0, 1], [3, 2]]
theorem gen21 : genRows 2 1 = some R21 := by decide +kernel
theorem low1 : mulM 1 (pickM R21 (idx 2 1)) [[5], [5]] = [[5]] := by decide +kernel
theorem low2 : mulM 1 (pickM R21 (idx 2 1)) [[1], [2]] = [[7]] := by decide +kernel
theorem cs_of {w : World} {g : Nat} {sl : List Value} {ls : List (List Nat)} (hb : Blk w g sl 39) (h : ∀ j, j < ls.length → ∃ ai ci, sl[j]? = some (.slice ai (rw ls j).length ci) ∧ Bn w ai (rw ls j)) : Cs w (some ⟨g, 0, none⟩) ls := fun i hi => by
  obtain ⟨ai, ci, h1, h2⟩ := h i hi
  refine ⟨g, 0, ai, ci, rfl, ?_, h2⟩
  rw [Nat.zero_add]
  exact hb.cell h1
theorem two_rows (w : World) (x y : Nat) (xi yi : Int) (hx1 : xi = x) (hy1 : yi = y) :
    Cs (((w.alloc (.cells #[.int .u8 xi] 5)).alloc (.cells #[.int .u8 yi] 5)).alloc (.cells #[.slice (some ⟨w.heap.size, 0, none⟩) 1 1, .slice (some ⟨w.heap.size + 1, 0, none⟩) 1 1] 39)) (some ⟨w.heap.size + 2, 0, none⟩) [[x], [y]] ∧
    Kept [] w (((w.alloc (.cells #[.int .u8 xi] 5)).alloc (.cells #[.int .u8 yi] 5)).alloc (.cells #[.slice (some ⟨w.heap.size, 0, none⟩) 1 1, .slice (some ⟨w.heap.size + 1, 0, none⟩) 1 1] 39)) := by
  subst hx1 hy1
  refine ⟨cs_of (sl := [.slice (some ⟨w.heap.size, 0, none⟩) 1 1, .slice (some ⟨w.heap.size + 1, 0, none⟩) 1 1]) ?_ fun j hj => ?_, ((Kept.refl [] w).alloc _).alloc _ |>.alloc _⟩
  · have h := Blk.new ((w.alloc (.cells #[.int .u8 (x : Int)] 5)).alloc (.cells #[.int .u8 (y : Int)] 5)) [.slice (some ⟨w.heap.size, 0, none⟩) 1 1, .slice (some ⟨w.heap.size + 1, 0, none⟩) 1 1] 39
    rw [World.size_alloc, World.size_alloc] at h
    exact h
  · have b1 : Blk (w.alloc (.cells #[.int .u8 (x : Int)] 5)) w.heap.size ([x].map bn) 5 := Blk.new w _ _
    have b2 : Blk ((w.alloc (.cells #[.int .u8 (x : Int)] 5)).alloc (.cells #[.int .u8 (y : Int)] 5)) (w.heap.size + 1) ([y].map bn) 5 := by
      have h := Blk.new (w.alloc (.cells #[.int .u8 (x : Int)] 5)) ([y].map bn) 5
      rw [World.size_alloc] at h
      exact h
    match j, hj with
    | 0, _ => exact ⟨_, 1, rfl, bn_blk ((b1.alloc _).alloc _)⟩
    | 1, _ => exact ⟨_, 1, rfl, bn_blk (b2.alloc _)⟩
theorem one_rows (w : World) (x : Nat) (xi : Int) (hx1 : xi = x) :
    Cs ((w.alloc (.cells #[.int .u8 xi] 5)).alloc (.cells #[.slice (some ⟨w.heap.size, 0, none⟩) 1 1] 39)) (some ⟨w.heap.size + 1, 0, none⟩) [[x]] ∧
    Kept [] w ((w.alloc (.cells #[.int .u8 xi] 5)).alloc (.cells #[.slice (some ⟨w.heap.size, 0, none⟩) 1 1] 39)) := by
  subst hx1
  refine ⟨cs_of (sl := [.slice (some ⟨w.heap.size, 0, none⟩) 1 1]) ?_ fun j hj => ?_, ((Kept.refl [] w).alloc _).alloc _⟩
  · have h := Blk.new (w.alloc (.cells #[.int .u8 (x : Int)] 5)) [.slice (some ⟨w.heap.size, 0, none⟩) 1 1] 39
    rw [World.size_alloc] at h
    exact h
  · have b1 : Blk (w.alloc (.cells #[.int .u8 (x : Int)] 5)) w.heap.size ([x].map bn) 5 := Blk.new w _ _
    match j, hj with
    | 0, _ => exact ⟨_, 1, rfl, bn_blk (b1.alloc _)⟩
theorem mt_two (x y : Nat) (hx1 : x < 256) (hy1 : y < 256) : Mt 2 1 [[x], [y]] := ⟨rfl, fun r hr => by
  simp only [List.mem_cons, List.not_mem_nil, or_false] at hr
  rcases hr with rfl | rfl <;> rfl, fun r hr => by
  simp only [List.mem_cons, List.not_mem_nil, or_false] at hr
  rcases hr with rfl | rfl <;> (intro z hz; rw [List.mem_singleton] at hz; omega)⟩
theorem eq_two (x y : Nat) : EqL [[x], [y]] := ⟨by show 1 ≤ 1200; omega, fun j hj => by
  match j, hj with
  | 0, _ => rfl
  | 1, _ => rfl⟩
set_option maxRecDepth 100000 in
set_option maxHeartbeats 3200000 in
theorem awake_any (w : World) : Calls Try.prog 8 #[] w fun e w' => e = .returned (.bool true) ∧ Kept [] w w' := by
  go_enter Try.func8, Try.ntmps8
  go_wp2_with fail
  refine (gfnew_any w).mono ?_
  rintro e w1 ⟨rfl, hT, hk1⟩
  generalize w.heap.size = t at *
  have HNW := hx (show Calls Try.prog 11 #[.pointer (some ⟨t, 0, none⟩), .int .i64 2, .int .i64 1] w1 (CodP w1 t 2 1) from rsnew_any t 2 1 w1 hT (by omega) (by omega))
  have HT := hx hT
  have K1 := hx hk1
  clear hT hk1
  go_wp2_with fail
  refine HNW.out.mono ?_
  rintro e w2 hc
  obtain ⟨g, gr, R, rfl, hcod, hk2⟩ := cod_new HT.out (by omega) hc
  obtain rfl : R = R21 := Option.some.inj (hcod.go.symm.trans gen21)
  have S2 := hx hcod
  have K2 := hx (K1.out.trans0 hk2)
  have T2 := hx (two_rows w2 5 5 5 5 rfl rfl)
  clear hc hcod hk2 HNW HT K1
  go_wp2_with fail
  generalize ((w2.alloc (.cells #[.int .u8 5] 5)).alloc (.cells #[.int .u8 5] 5)).alloc (.cells #[.slice (some ⟨w2.heap.size, 0, none⟩) 1 1, .slice (some ⟨w2.heap.size + 1, 0, none⟩) 1 1] 39) = w3 at *
  have S3 := hx (S2.out.kept T2.out.2)
  refine (show Calls Try.prog 13 #[.pointer (some ⟨g, 0, none⟩), .slice (some ⟨w2.heap.size + 2, 0, none⟩) 2 2] w3 _ from enc_any t g gr 2 1 1 2 R21 [[5], [5]] _ w3 S3.out (mt_two 5 5 (by omega) (by omega)) (by omega) (by omega) T2.out.1 (eq_two 5 5) (by omega)).mono ?_
  rintro e w4 ⟨a1, rfl, hcs, hk4⟩
  rw [low1] at hcs
  have S4 := hx (S3.out.kept hk4)
  have K4 := hx ((K2.out.trans0 T2.out.2).trans0 hk4)
  have A4 := hx hcs
  have T4 := hx (two_rows w4 1 2 1 2 rfl rfl)
  clear hcs hk4 S2 S3 K2 T2
  go_wp2_with fail
  generalize ((w4.alloc (.cells #[.int .u8 1] 5)).alloc (.cells #[.int .u8 2] 5)).alloc (.cells #[.slice (some ⟨w4.heap.size, 0, none⟩) 1 1, .slice (some ⟨w4.heap.size + 1, 0, none⟩) 1 1] 39) = w5 at *
  have S5 := hx (S4.out.kept T4.out.2)
  refine (show Calls Try.prog 13 #[.pointer (some ⟨g, 0, none⟩), .slice (some ⟨w4.heap.size + 2, 0, none⟩) 2 2] w5 _ from enc_any t g gr 2 1 1 2 R21 [[1], [2]] _ w5 S5.out (mt_two 1 2 (by omega) (by omega)) (by omega) (by omega) T4.out.1 (eq_two 1 2) (by omega)).mono ?_
  rintro e w6 ⟨a2, rfl, hcs, hk6⟩
  rw [low2] at hcs
  have K6 := hx ((K4.out.trans0 T4.out.2).trans0 hk6)
  have A6 := hx ((A4.out.kept T4.out.2).kept hk6)
  have B6 := hx hcs
  have T6 := hx (one_rows w6 5 5 rfl)
  clear hcs hk6 S4 S5 K4 T4 A4
  go_wp2_with fail
  generalize (w6.alloc (.cells #[.int .u8 5] 5)).alloc (.cells #[.slice (some ⟨w6.heap.size, 0, none⟩) 1 1] 39) = w7 at *
  refine (show Calls Try.prog 15 #[.slice a1 1 1, .slice (some ⟨w6.heap.size + 1, 0, none⟩) 1 1] w7 _ from same_any a1 _ 1 1 [[5]] w7 (A6.out.kept T6.out.2) T6.out.1 (by decide)).mono ?_
  rintro e w8 ⟨rfl, hk8⟩
  have K8 := hx ((K6.out.trans0 T6.out.2).trans0 hk8)
  have B8 := hx ((B6.out.kept T6.out.2).kept hk8)
  have T8 := hx (one_rows w8 7 7 rfl)
  clear hk8 A6 B6 T6 K6
  go_wp2_with fail
  generalize (w8.alloc (.cells #[.int .u8 7] 5)).alloc (.cells #[.slice (some ⟨w8.heap.size, 0, none⟩) 1 1] 39) = w9 at *
  refine (show Calls Try.prog 15 #[.slice a2 1 1, .slice (some ⟨w8.heap.size + 1, 0, none⟩) 1 1] w9 _ from same_any a2 _ 1 1 [[7]] w9 (B8.out.kept T8.out.2) T8.out.1 (by decide)).mono ?_
  rintro e w10 ⟨rfl, hk10⟩
  have K10 := hx ((K8.out.trans0 T8.out.2).trans0 hk10)
  clear hk10
  go_wp2_with fail
  go_ret
  exact ⟨rfl, K10.out⟩
end Go.Proofs.Ytjgnngnknhkpmaa
