/- The program's matrices: Powers. -/
import Derived.Test.YtjgnngnknhkpmaaMatB
namespace Go.Proofs.Ytjgnngnknhkpmaa
open Go Go.RowKit
def powC (r c k : Nat) : List Value := tab (r * c) fun p => bn (if p < k then gpow (p / c) (p % c) else 0)
theorem powC_0 (r c : Nat) : (List.replicate (r * c) 0).map bn = powC r c 0 := by
  refine tab_eq (by simp) fun i hi => ?_
  rw [List.getElem?_map, List.getElem?_replicate, if_pos hi]
  simp
theorem powC_step (r c i j : Nat) (hi : i < r) (hj : j < c) : (powC r c (i * c + j)).set (i * c + j) (bn (gpow i j)) = powC r c (i * c + (j + 1)) := by
  have he := row_end (c := c) hi
  obtain ⟨h1, h2⟩ := at_div (i := i) hj
  refine tab_set (by omega) ?_ fun p _ hne => ?_
  · rw [if_pos (by omega), h1, h2]
  · by_cases h3 : p < i * c + j
    · rw [if_pos h3, if_pos (by omega)]
    · rw [if_neg h3, if_neg (by omega)]
theorem powC_row (r c i : Nat) : powC r c (i * c + c) = powC r c ((i + 1) * c + 0) := by rw [Nat.add_mul]; simp
theorem powC_all (r c : Nat) : powC r c (r * c + 0) = cellsM (genM r c gpow) [] := by
  rw [genM_cells (fun i j => gpow_lt i j)]
  refine tab_ext fun p hp => ?_
  rw [if_pos (by omega)]
theorem powC_len (r c k : Nat) : (powC r c k).length = r * c := tab_len _ _
set_option maxRecDepth 100000 in
set_option maxHeartbeats 8000000 in
theorem powers_any (t r c : Nat) (w : World) (hT : Blk w t (tabC 255) 73) (hr : r ≤ 255) (hc : c ≤ 255) :
    Calls Try.prog 26 #[.pointer (some ⟨t, 0, none⟩), .int .i64 r, .int .i64 c] w fun e w' => ∃ g, e = .returned (.tuple #[mv g r c (r * c), .int .i64 0]) ∧ w.heap.size ≤ g ∧ Blk w' g (cellsM (genM r c gpow) []) 5 ∧ Kept [] w w' := by
  have hz := zeroMx
  have hpb := mul_le hr hc
  have HC0 := hx (powC_0 r c)
  have HC1 := hx (powC_step r c)
  have HC2 := hx (powC_all r c)
  have HC3 := hx (powC_row r c)
  have HCL := hx (powC_len r c)
  have HRE := hx (fun i (hi : i < r) => row_end (c := c) hi)
  have HT := hx hT
  have B2 := hx (Blk.new w [.int .i64 0, .int .i64 0, .slice none 0 0] 41)
  have K0 := hx ((Kept.refl [] w).alloc (.cells #[.int .i64 0, .int .i64 0, .slice none 0 0] 41))
  have HN := hx (mnew_any r c (w.alloc (.cells #[.int .i64 0, .int .i64 0, .slice none 0 0] 41)) hr hc)
  unfold mv at HN ⊢
  have HRC := hx (show r * c = r * c from rfl)
  obtain ⟨p, hp⟩ : ∃ p, r * c = p := ⟨_, rfl⟩
  rw [hp] at hpb HC0 HC2 HCL HRE HN ⊢
  have HPE := hx hp
  have hr1 : (r : Int) ≤ 255 := by omega
  have hc1 : (c : Int) ≤ 255 := by omega
  clear hp hT
  go_enter Try.func26, Try.ntmps26
  go_wp2_with fail
  clear hz
  refine HN.out.mono ?_
  rintro e w2 ⟨rfl, hb, hk⟩
  have hg0 : (w.alloc (.cells #[.int .i64 0, .int .i64 0, .slice none 0 0] 41)).heap.size + 1 = w.heap.size + 2 := by simp
  rw [hg0] at hb ⊢
  have HG := hx (show Blk (w2.alloc (.cells #[.int .i64 r, .int .i64 c, .slice (some ⟨w.heap.size + 2, 0, none⟩) p p] 41)) (w.heap.size + 2) (powC r c (0 * c + 0)) 5 by
    have h := hb.alloc (.cells #[.int .i64 r, .int .i64 c, .slice (some ⟨w.heap.size + 2, 0, none⟩) p p] 41)
    rw [HC0.out] at h
    simpa using h)
  have HS := hx (show MkS w (w2.alloc (.cells #[.int .i64 r, .int .i64 c, .slice (some ⟨w.heap.size + 2, 0, none⟩) p p] 41)) w2.heap.size [.int .i64 r, .int .i64 c, .slice (some ⟨w.heap.size + 2, 0, none⟩) p p] from
    ⟨(hk.blk B2.out (by simp)).alloc _, Blk.new w2 [.int .i64 r, .int .i64 c, .slice (some ⟨w.heap.size + 2, 0, none⟩) p p] _, (K0.out.trans0 hk).alloc _, by have h := hb.lt; omega⟩)
  have HNE := hx (show w.heap.size + 2 ≠ w2.heap.size by have h := hb.lt; omega)
  clear hb hk hg0 HN B2 K0 HC0
  go_upto_region 4 with fail
  generalize w2.heap.size = b4 at *
  generalize w2.alloc (.cells #[.int .i64 r, .int .i64 c, .slice (some ⟨w.heap.size + 2, 0, none⟩) p p] 41) = w3 at *
  go_wp2_with fail
  go_loopw [23] (fun iv wr => ∃ i : Nat, i ≤ r ∧ iv = .int .i64 i ∧ Blk wr (w.heap.size + 2) (powC r c (i * c + 0)) 5 ∧ MkS w wr b4 [.int .i64 r, .int .i64 c, .slice (some ⟨w.heap.size + 2, 0, none⟩) p p]) (fun iv _ => r - (intOf iv).toNat)
  case atStart => exact ⟨0, by omega, rfl, HG.out, HS.out⟩
  case round =>
    clear HG HS
    obtain ⟨i, hi, rfl, hb, hs⟩ := hrel
    have HB := hx hb
    have HS := hx hs
    clear hb hs
    by_cases hlt : i < r
    · have hj : (i : Int) < (r : Int) := by omega
      have hre := HRE.out i hlt
      obtain ⟨q, hq⟩ : ∃ q, i * c = q := ⟨_, rfl⟩
      have hqi : (i : Int) * (c : Int) = (q : Int) := by rw [← hq, Int.natCast_mul]
      have HQ := hx hq
      rw [hq] at hre HB
      have hib : (i : Int) ≤ 255 := by omega
      have hu : IntKind.u8.wrap (i : Int) = (i : Int) := by rw [IntKind.wrap_u8]; omega
      go_upto_region 8 with fail
      go_loopw [27] (fun jv wr => ∃ j : Nat, j ≤ c ∧ jv = .int .i64 j ∧ Blk wr (w.heap.size + 2) (powC r c (q + j)) 5 ∧ MkS w wr b4 [.int .i64 r, .int .i64 c, .slice (some ⟨w.heap.size + 2, 0, none⟩) p p]) (fun jv _ => c - (intOf jv).toNat)
      case atStart => exact ⟨0, by omega, rfl, HB.out, HS.out⟩
      case round =>
        clear HB HS
        obtain ⟨j, hj1, rfl, hb, hs⟩ := hrel
        have HB := hx hb
        have HS := hx hs
        clear hb hs
        by_cases hjl : j < c
        · have hjj : (j : Int) < (c : Int) := by omega
          have HST := hx (HC1.out i j hlt hjl)
          rw [HQ.out] at HST
          have c2 := HS.out.r4.cell (i := 2) rfl
          obtain ⟨u, hu2⟩ : ∃ u, (powC r c (q + j))[q + j]? = some u := ⟨_, List.getElem?_eq_getElem (by rw [HCL.out]; omega)⟩
          have c1 := HB.out.cell hu2
          have f1 := HB.out.free
          have hqp : (q : Int) + (j : Int) < (p : Int) := by omega
          have hq0 : 0 ≤ (q : Int) + (j : Int) := by omega
          have hqw : IntKind.i64.wrap (q : Int) = (q : Int) := by rw [IntKind.wrap_i64]; omega
          have hqw2 : IntKind.i64.wrap ((q : Int) + (j : Int)) = (q : Int) + (j : Int) := by rw [IntKind.wrap_i64]; omega
          have hqn : ((q : Int) + (j : Int)).toNat = q + j := by omega
          have HPW := hx (fun w9 (hk : Kept [] wr w9) => gfpow_any t i j w9 (hk.blk (HS.out.k.blk HT.out (by simp)) (by simp)) (by omega) (by omega))
          go_upto_region 10 with fail
          go_region_with (go_at_call 44; refine (HPW.out _ (by first | exact Kept.refl _ _ | exact (Kept.refl _ _).drew)).mono ?_; rintro e w9 ⟨rfl, rfl⟩)
          all_goals
            have HB2 := hx (show Blk (wr.setCell ⟨w.heap.size + 2, q + j, none⟩ (.int .u8 (gpow i j : Nat))).drew (w.heap.size + 2) (powC r c (q + (j + 1))) 5 by rw [← HST.out]; exact (HB.out.set (q + j) _).drew)
            have HS2 := hx ((HS.out.set (a := ⟨w.heap.size + 2, q + j, none⟩) (g := w.heap.size + 2) rfl (by omega) HNE.out (.int .u8 (gpow i j : Nat))).kept (Kept.refl _ _).drew)
            clear HB HS HST hu2 c1 c2 f1 HPW
            go_wp2_with fail
            go_roundw
            case rel => exact ⟨j + 1, by omega, by go_num, HB2.out, HS2.out⟩
            case measure => simp [intOf] <;> omega
        · have hjj : ¬ (j : Int) < (c : Int) := by omega
          obtain rfl : j = c := by omega
          have HB2 := HB.out
          rw [← HQ.out, HC3.out i] at HB2
          replace HB2 := hx HB2
          go_wp2_with fail
          go_roundw
          case rel => exact ⟨i + 1, by omega, by go_num, HB2.out, HS.out⟩
          case measure => simp [intOf] <;> omega
    · obtain rfl : i = r := by omega
      have cs0 := HS.out.r4.cell (i := 0) rfl
      have cs1 := HS.out.r4.cell (i := 1) rfl
      have cs2 := HS.out.r4.cell (i := 2) rfl
      have ct0 := HS.out.r2.cell (i := 0) rfl
      have ct1 := HS.out.r2.cell (i := 1) rfl
      have ct2 := HS.out.r2.cell (i := 2) rfl
      have hf := HS.out.r2.free
      have HP := hx HS.out.put
      go_wp2_with fail
      refine bodyPost_ret (ret_cq rfl _ w.heap.size _ _ _ _ rfl rfl HP.out.1 Try.underlying41 rfl infoMx) rfl ⟨w.heap.size + 2, rfl, by omega, ?_, HS.out.k.trans HP.out.2 (fun _ h => by simp at h) (fun x hx => by simp at hx; right; omega)⟩
      have h := HP.out.2.blk HB.out (by simp)
      rw [HPE.out, HC2.out] at h
      exact h
end Go.Proofs.Ytjgnngnknhkpmaa
