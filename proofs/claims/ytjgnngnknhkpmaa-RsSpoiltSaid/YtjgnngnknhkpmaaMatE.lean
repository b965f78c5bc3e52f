/- The program's matrices: Pick, the walk. -/
import Derived.Test.YtjgnngnknhkpmaaMatD
namespace Go.Proofs.Ytjgnngnknhkpmaa
open Go Go.RowKit
/-- Pick's blocks. -/
structure PkS (w wr : World) (b6 : Nat) (ms vs : List Value) : Prop where
  r2 : Blk wr w.heap.size ms 41
  r4 : Blk wr (w.heap.size + 1) [.int .i64 0, .int .i64 0, .slice none 0 0] 41
  r6 : Blk wr b6 vs 41
  k : Kept [] w wr
  lt : w.heap.size + 1 < b6
theorem PkS.kept {w wr w2 : World} {b6 : Nat} {ms vs : List Value} (s : PkS w wr b6 ms vs) (hk : Kept [] wr w2) : PkS w w2 b6 ms vs := ⟨hk.blk s.r2 (by simp), hk.blk s.r4 (by simp), hk.blk s.r6 (by simp), s.k.trans0 hk, s.lt⟩
theorem PkS.cells {w wr : World} {b6 g : Nat} {ms vs : List Value} (s : PkS w wr b6 ms vs) (hg : w.heap.size + 1 < g) (hne : g ≠ b6) (o : Nat) (us : List Value) : PkS w (wr.setCells g o us) b6 ms vs :=
  ⟨s.r2.setCells_ne (by omega) o us, s.r4.setCells_ne (by omega) o us, s.r6.setCells_ne (by omega) o us, s.k.setCells (.inr (by omega)) o us, s.lt⟩
theorem PkS.put {w wr : World} {b6 : Nat} {ms : List Value} {x y z : Value} (s : PkS w wr b6 ms [x, y, z]) : Blk (((wr.setCell ⟨w.heap.size + 1, 0, none⟩ x).setCell ⟨w.heap.size + 1, 1, none⟩ y).setCell ⟨w.heap.size + 1, 2, none⟩ z) (w.heap.size + 1) [x, y, z] 41 ∧ Kept [w.heap.size + 1] wr (((wr.setCell ⟨w.heap.size + 1, 0, none⟩ x).setCell ⟨w.heap.size + 1, 1, none⟩ y).setCell ⟨w.heap.size + 1, 2, none⟩ z) :=
  ⟨((s.r4.set 0 x).set 1 y).set 2 z, (((Kept.refl [w.heap.size + 1] wr).setCell (p := ⟨w.heap.size + 1, 0, none⟩) (.inl (by simp)) x).setCell (p := ⟨w.heap.size + 1, 1, none⟩) (.inl (by simp)) y).setCell (p := ⟨w.heap.size + 1, 2, none⟩) (.inl (by simp)) z⟩
set_option maxRecDepth 100000 in
set_option maxHeartbeats 8000000 in
theorem pick_any (b r c cap c3 : Nat) (m : List (List Nat)) (rest : List Value) (a3 : Option Addr) (l : List Nat) (w : World) (hb : Blk w b (cellsM m rest) 5) (hm : Mt r c m) (hr : r ≤ 255) (hc : c ≤ 255) (hc0 : 1 ≤ c) (hcap : r * c ≤ cap)
    (hl : ∀ x ∈ l, x < r) (hln : l.length ≤ 255) (hI : In w a3 l) :
    Calls Try.prog 27 #[mv b r c cap, .slice a3 l.length c3] w fun e w' => ∃ g, e = .returned (.tuple #[mv g l.length c (l.length * c), .int .i64 0]) ∧ w.heap.size ≤ g ∧ Blk w' g (cellsM (pickM m l) []) 5 ∧ Kept [] w w' := by
  have hz := zeroMx
  have hlr : ∀ k, k < l.length → l.getD k 0 < r := fun k hk => by
    rw [List.getD_eq_getElem?_getD, List.getElem?_eq_getElem hk]; exact hl _ (List.getElem_mem hk)
  have HLR := hx hlr
  have HMS := hx (fun i => pickS_mt hm hl i)
  have HP0 := hx (pickS_0 c m l)
  have HPS := hx (pickS_set c m l)
  have HPA := hx (pickS_all c m l)
  have HM := hx hm
  have HI := hx hI
  have HB := hx hb
  have HCP := hx hcap
  have HROW := hx (fun b r c cap i w hr hc hc0 hi hcap => row_any b r c cap i w hr hc hc0 hi hcap)
  have HRT := hx (fun w => right_any b r c cap w hr hc)
  have HNW := hx (fun w => mnew_any l.length c w hln hc)
  obtain ⟨n, hn⟩ : ∃ n, l.length = n := ⟨_, rfl⟩
  have HNE := hx hn
  rw [hn] at hln HLR HPA HPS HP0 HNW HMS ⊢
  have hn1 : (n : Int) ≤ 255 := by omega
  have hr1 : (r : Int) ≤ 255 := by omega
  have hbl := hb.lt
  have B2 := hx (show Blk ((w.alloc (.cells #[.int .i64 (r : Int), .int .i64 (c : Int), .slice (some ⟨b, 0, none⟩) (r * c) cap] 41)).alloc (.cells #[.int .i64 0, .int .i64 0, .slice none 0 0] 41)) w.heap.size [.int .i64 (r : Int), .int .i64 (c : Int), .slice (some ⟨b, 0, none⟩) (r * c) cap] 41 from (Blk.new w _ _).alloc _)
  have B4 := hx (show Blk ((w.alloc (.cells #[.int .i64 (r : Int), .int .i64 (c : Int), .slice (some ⟨b, 0, none⟩) (r * c) cap] 41)).alloc (.cells #[.int .i64 0, .int .i64 0, .slice none 0 0] 41)) (w.heap.size + 1) [.int .i64 0, .int .i64 0, .slice none 0 0] 41 by
    have h := Blk.new (w.alloc (.cells #[.int .i64 (r : Int), .int .i64 (c : Int), .slice (some ⟨b, 0, none⟩) (r * c) cap] 41)) [.int .i64 0, .int .i64 0, .slice none 0 0] 41
    rw [World.size_alloc] at h
    exact h)
  have K0 := hx (((Kept.refl [] w).alloc (.cells #[.int .i64 (r : Int), .int .i64 (c : Int), .slice (some ⟨b, 0, none⟩) (r * c) cap] 41)).alloc (.cells #[.int .i64 0, .int .i64 0, .slice none 0 0] 41))
  unfold mv at *
  clear hb hm hl hI hcap hlr hn
  go_enter Try.func27, Try.ntmps27
  go_wp2_with fail
  clear hz
  generalize (w.alloc (.cells #[.int .i64 (r : Int), .int .i64 (c : Int), .slice (some ⟨b, 0, none⟩) (r * c) cap] 41)).alloc (.cells #[.int .i64 0, .int .i64 0, .slice none 0 0] 41) = W0 at *
  refine (HRT.out W0).mono ?_
  rintro e w1 ⟨rfl, hk1⟩
  have c21 := (hk1.blk B2.out (by simp)).cell (i := 1) rfl
  go_wp2_with fail
  refine (HNW.out w1).mono ?_
  rintro e w2 ⟨rfl, hb2, hk2⟩
  obtain ⟨g, hg⟩ : ∃ g, w1.heap.size + 1 = g := ⟨_, rfl⟩
  rw [hg] at hb2 ⊢
  have hgl : w.heap.size + 1 < g := by have h := (hk1.blk B4.out (by simp)).lt; omega
  have HG := hx (show Blk (w2.alloc (.cells #[.int .i64 (n : Int), .int .i64 (c : Int), .slice (some ⟨g, 0, none⟩) (n * c) (n * c)] 41)) g (cellsM (pickS c m l 0) []) 5 by
    rw [← HP0.out]
    exact hb2.alloc _)
  have HS := hx (show PkS w (w2.alloc (.cells #[.int .i64 (n : Int), .int .i64 (c : Int), .slice (some ⟨g, 0, none⟩) (n * c) (n * c)] 41)) w2.heap.size [.int .i64 (r : Int), .int .i64 (c : Int), .slice (some ⟨b, 0, none⟩) (r * c) cap] [.int .i64 (n : Int), .int .i64 (c : Int), .slice (some ⟨g, 0, none⟩) (n * c) (n * c)] from
    ⟨(hk2.blk (hk1.blk B2.out (by simp)) (by simp)).alloc _, (hk2.blk (hk1.blk B4.out (by simp)) (by simp)).alloc _, Blk.new w2 _ _, ((K0.out.trans0 hk1).trans0 hk2).alloc _, by have h := hb2.lt; omega⟩)
  have HGN := hx (show g ≠ w2.heap.size ∧ w.heap.size + 1 < g ∧ b < w.heap.size by have h := hb2.lt; omega)
  clear hb2 hk2 hg hgl hk1 c21 B2 B4 K0 HP0 HRT HNW
  go_upto_region 4 with fail
  generalize w2.heap.size = b6 at *
  generalize w2.alloc (.cells #[.int .i64 (n : Int), .int .i64 (c : Int), .slice (some ⟨g, 0, none⟩) (n * c) (n * c)] 41) = w3 at *
  go_wp2_with fail
  go_loopw [29] (fun iv wr => ∃ i : Nat, i ≤ n ∧ iv = .int .i64 i ∧ Blk wr g (cellsM (pickS c m l i) []) 5 ∧ PkS w wr b6 [.int .i64 (r : Int), .int .i64 (c : Int), .slice (some ⟨b, 0, none⟩) (r * c) cap] [.int .i64 (n : Int), .int .i64 (c : Int), .slice (some ⟨g, 0, none⟩) (n * c) (n * c)]) (fun iv _ => n - (intOf iv).toNat)
  case atStart => exact ⟨0, by omega, rfl, HG.out, HS.out⟩
  case round =>
    clear HG HS
    obtain ⟨i, hi, rfl, hb, hs⟩ := hrel
    have HB1 := hx hb
    have HS := hx hs
    clear hb hs
    by_cases hlt : i < n
    · have hj : (i : Int) < (n : Int) := by omega
      obtain ⟨b3, o3, ha3, c3⟩ := (HI.out.kept HS.out.k) i (by rw [HNE.out]; exact hlt)
      subst ha3
      have hlri := HLR.out i hlt
      have HSET := hx (HPS.out i hlt)
      generalize l.getD i 0 = x at *
      have hxr : (x : Int) < (r : Int) := by omega
      have c20 := HS.out.r2.cell (i := 0) rfl
      have c21 := HS.out.r2.cell (i := 1) rfl
      have c22 := HS.out.r2.cell (i := 2) rfl
      have c60 := HS.out.r6.cell (i := 0) rfl
      have c61 := HS.out.r6.cell (i := 1) rfl
      have c62 := HS.out.r6.cell (i := 2) rfl
      have hkd : Kept [] wr wr.drew := (Kept.refl [] wr).drew
      have HRB := hx (fun w9 (_ : Kept [] wr w9) => HROW.out b r c cap x w9 hr hc hc0 hlri HCP.out)
      have HRG := hx (fun w9 (_ : Kept [] wr w9) => HROW.out g n c (n * c) i w9 hln hc hc0 hlt (Nat.le_refl _))
      have HCY := hx (fun w9 (hk : Kept [] wr w9) => copy_run (b := g) (o := i * c) (cap1 := c) (cap2 := c) (b2 := b) (o2 := x * c) (s := rw m x) (hk.blk HB1.out (by simp)) (HM.out.len hlri) (by rw [cellsM_len (HMS.out i)]; have h := row_end (c := c) hlt; simp; omega) (row_cells (hk.blk (HS.out.k.blk HB.out (by simp)) (by simp)) HM.out hlri))
      go_upto_region 9 with fail
      have flag : True := trivial
      go_region_with (first | (have flag2 := flag; clear flag flag2; go_at_call 46; refine (HRG.out _ (by assumption)).mono ?_; rintro e w9 ⟨rfl, hk9⟩; have hkk9 : Kept [] wr w9 := Kept.trans0 (by assumption) hk9; have hcy9 := HCY.out w9 hkk9; have d0 := kept_cell hkk9 c20; have d1 := kept_cell hkk9 c21; have d2 := kept_cell hkk9 c22; have e0 := kept_cell hkk9 c60; have e1 := kept_cell hkk9 c61; have e2 := kept_cell hkk9 c62; clear hk9) | (go_at_call 46; refine (HRB.out _ (by assumption)).mono ?_; rintro e w9 ⟨rfl, hk9⟩; have hkk9 : Kept [] wr w9 := Kept.trans0 (by assumption) hk9; have hcy9 := HCY.out w9 hkk9; have d0 := kept_cell hkk9 c20; have d1 := kept_cell hkk9 c21; have d2 := kept_cell hkk9 c22; have e0 := kept_cell hkk9 c60; have e1 := kept_cell hkk9 c61; have e2 := kept_cell hkk9 c62; clear hk9))
      all_goals
        have HB2 := hx (show Blk (w9.setCells g (i * c) ((rw m x).map bn)) g (cellsM (pickS c m l (i + 1)) []) 5 by
          rw [← HSET.out, ← cellsM_put (HMS.out i) [] hlt (HM.out.len hlri) (HM.out.rowOct hlri)]
          exact (hkk9.blk HB1.out (by simp)).setCells _ _)
        have HS2 := hx ((HS.out.kept hkk9).cells (g := g) HGN.out.2.1 HGN.out.1 (i * c) ((rw m x).map bn))
        clear HB1 HS HSET c20 c21 c22 c60 c61 c62 d0 d1 d2 e0 e1 e2 hcy9 hkk9 HRB HRG HCY
        go_wp2_with fail
        go_roundw
        case rel => exact ⟨i + 1, by omega, by go_num, HB2.out, HS2.out⟩
        case measure => simp [intOf] <;> omega
    · obtain rfl : i = n := by omega
      have cs0 := HS.out.r6.cell (i := 0) rfl
      have cs1 := HS.out.r6.cell (i := 1) rfl
      have cs2 := HS.out.r6.cell (i := 2) rfl
      have ct0 := HS.out.r4.cell (i := 0) rfl
      have ct1 := HS.out.r4.cell (i := 1) rfl
      have ct2 := HS.out.r4.cell (i := 2) rfl
      have hf := HS.out.r4.free
      have HP := hx HS.out.put
      go_wp2_with fail
      refine bodyPost_ret (ret_cq rfl _ (w.heap.size + 1) _ _ _ _ rfl rfl HP.out.1 Try.underlying41 rfl infoMx) rfl ⟨g, rfl, by have h := HGN.out; omega, ?_, HS.out.k.trans HP.out.2 (fun _ h => by simp at h) (fun x hx => by simp at hx; right; omega)⟩
      have h := HP.out.2.blk HB1.out (by have h := HGN.out; simp; omega)
      rw [HPA.out] at h
      exact h
end Go.Proofs.Ytjgnngnknhkpmaa
