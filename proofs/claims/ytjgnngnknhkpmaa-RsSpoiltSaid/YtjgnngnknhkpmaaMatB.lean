/- The program's matrices: Identity, Powers. -/
import Derived.Test.YtjgnngnknhkpmaaMatA
namespace Go.Proofs.Ytjgnngnknhkpmaa
open Go Go.RowKit
def idF (i j : Nat) : Nat := if i = j then 1 else 0
def idC (n k : Nat) : List Value := tab (n * n) fun p => bn (if p / n < k ∧ p / n = p % n then 1 else 0)
theorem idC_0 (n : Nat) : (List.replicate (n * n) 0).map bn = idC n 0 := by
  refine tab_eq (by simp) fun i hi => ?_
  rw [List.getElem?_map, List.getElem?_replicate, if_pos hi]
  simp
theorem diag_at {n i p : Nat} (h : p / n = i) (h2 : p / n = p % n) : p = i * n + i := by
  have e := div_mod' p n
  rw [← h2, h] at e
  exact e.symm
theorem at_div {i c j : Nat} (hj : j < c) : (i * c + j) / c = i ∧ (i * c + j) % c = j := by
  have hc : 0 < c := by omega
  refine ⟨?_, ?_⟩
  · rw [Nat.add_comm, Nat.add_mul_div_right _ _ hc, Nat.div_eq_of_lt hj]; omega
  · rw [Nat.add_comm, Nat.add_mul_mod_self_right, Nat.mod_eq_of_lt hj]
theorem idC_step (n k : Nat) (hk : k < n) : (idC n k).set (k * n + k) (bn 1) = idC n (k + 1) := by
  have he := row_end (c := n) hk
  obtain ⟨h1, h2⟩ := at_div (i := k) hk
  refine tab_set (by omega) ?_ fun p hp hne => ?_
  · rw [if_pos ⟨by omega, by omega⟩]
  · by_cases h3 : p / n < k ∧ p / n = p % n
    · rw [if_pos h3, if_pos ⟨by omega, h3.2⟩]
    · rw [if_neg h3, if_neg]
      rintro ⟨h4, h5⟩
      exact hne (diag_at (by omega) h5)
theorem idC_all (n : Nat) : idC n n = cellsM (genM n n idF) [] := by
  rw [genM_cells (fun i j => by unfold idF; split <;> omega)]
  refine tab_ext fun p hp => ?_
  have hd := div_lt' hp
  unfold idF
  by_cases h : p / n = p % n
  · rw [if_pos ⟨hd, h⟩, if_pos h]
  · rw [if_neg (fun h2 => h h2.2), if_neg h]
theorem idC_len (n k : Nat) : (idC n k).length = n * n := tab_len _ _
/-- A matrix's result block, and the one that is worked at. -/
structure MkS (w wr : World) (b4 : Nat) (vs : List Value) : Prop where
  r2 : Blk wr w.heap.size [.int .i64 0, .int .i64 0, .slice none 0 0] 41
  r4 : Blk wr b4 vs 41
  k : Kept [] w wr
  lt : w.heap.size < b4
theorem MkS.set {w wr : World} {b4 g : Nat} {vs : List Value} (s : MkS w wr b4 vs) {a : Addr} (ha : a.block = g) (hg : w.heap.size < g) (hne : g ≠ b4) (v : Value) : MkS w (wr.setCell a v) b4 vs :=
  ⟨s.r2.set_ne (by omega) v, s.r4.set_ne (by omega) v, s.k.setCell (.inr (by omega)) v, s.lt⟩
theorem MkS.kept {w wr w2 : World} {b4 : Nat} {vs : List Value} (s : MkS w wr b4 vs) (hk : Kept [] wr w2) : MkS w w2 b4 vs := ⟨hk.blk s.r2 (by simp), hk.blk s.r4 (by simp), s.k.trans0 hk, s.lt⟩
theorem MkS.put {w wr : World} {b4 : Nat} {x y z : Value} (s : MkS w wr b4 [x, y, z]) : Blk (((wr.setCell ⟨w.heap.size, 0, none⟩ x).setCell ⟨w.heap.size, 1, none⟩ y).setCell ⟨w.heap.size, 2, none⟩ z) w.heap.size [x, y, z] 41 ∧ Kept [w.heap.size] wr (((wr.setCell ⟨w.heap.size, 0, none⟩ x).setCell ⟨w.heap.size, 1, none⟩ y).setCell ⟨w.heap.size, 2, none⟩ z) :=
  ⟨((s.r2.set 0 x).set 1 y).set 2 z, (((Kept.refl [w.heap.size] wr).setCell (p := ⟨w.heap.size, 0, none⟩) (.inl (by simp)) x).setCell (p := ⟨w.heap.size, 1, none⟩) (.inl (by simp)) y).setCell (p := ⟨w.heap.size, 2, none⟩) (.inl (by simp)) z⟩
set_option maxRecDepth 100000 in
set_option maxHeartbeats 4000000 in
theorem ident_any (n : Nat) (w : World) (hn : n ≤ 255) :
    Calls Try.prog 47 #[.int .i64 n] w fun e w' => ∃ g, e = .returned (.tuple #[mv g n n (n * n), .int .i64 0]) ∧ w.heap.size ≤ g ∧ Blk w' g (cellsM (genM n n idF) []) 5 ∧ Kept [] w w' := by
  have hz := zeroMx
  have hpb := mul_le hn hn
  have HC0 := hx (idC_0 n)
  have HC1 := hx (idC_step n)
  have HC2 := hx (idC_all n)
  have HCL := hx (idC_len n)
  have HRE := hx (fun i (hi : i < n) => row_end (c := n) hi)
  have B2 := hx (Blk.new w [.int .i64 0, .int .i64 0, .slice none 0 0] 41)
  have K0 := hx ((Kept.refl [] w).alloc (.cells #[.int .i64 0, .int .i64 0, .slice none 0 0] 41))
  have HN := hx (mnew_any n n (w.alloc (.cells #[.int .i64 0, .int .i64 0, .slice none 0 0] 41)) hn hn)
  unfold mv at HN ⊢
  obtain ⟨p, hp⟩ : ∃ p, n * n = p := ⟨_, rfl⟩
  rw [hp] at hpb HC0 HCL HRE HN ⊢
  have hn1 : (n : Int) ≤ 255 := by omega
  clear hp
  go_enter Try.func47, Try.ntmps47
  go_wp2_with fail
  clear hz
  refine HN.out.mono ?_
  rintro e w2 ⟨rfl, hb, hk⟩
  have hg0 : (w.alloc (.cells #[.int .i64 0, .int .i64 0, .slice none 0 0] 41)).heap.size + 1 = w.heap.size + 2 := by simp
  rw [hg0] at hb ⊢
  have HG := hx (show Blk (w2.alloc (.cells #[.int .i64 n, .int .i64 n, .slice (some ⟨w.heap.size + 2, 0, none⟩) p p] 41)) (w.heap.size + 2) (idC n 0) 5 by rw [← HC0.out]; exact hb.alloc _)
  have HS := hx (show MkS w (w2.alloc (.cells #[.int .i64 n, .int .i64 n, .slice (some ⟨w.heap.size + 2, 0, none⟩) p p] 41)) w2.heap.size [.int .i64 n, .int .i64 n, .slice (some ⟨w.heap.size + 2, 0, none⟩) p p] from
    ⟨(hk.blk B2.out (by simp)).alloc _, Blk.new w2 [.int .i64 n, .int .i64 n, .slice (some ⟨w.heap.size + 2, 0, none⟩) p p] _, (K0.out.trans0 hk).alloc _, by have h := hb.lt; omega⟩)
  have HNE := hx (show w.heap.size + 2 ≠ w2.heap.size by have h := hb.lt; omega)
  clear hb hk hg0 HN B2 K0 HC0
  go_upto_region 4 with fail
  generalize w2.heap.size = b4 at *
  generalize w2.alloc (.cells #[.int .i64 n, .int .i64 n, .slice (some ⟨w.heap.size + 2, 0, none⟩) p p] 41) = w3 at *
  go_wp2_with fail
  go_loopw [18] (fun iv wr => ∃ i : Nat, i ≤ n ∧ iv = .int .i64 i ∧ Blk wr (w.heap.size + 2) (idC n i) 5 ∧ MkS w wr b4 [.int .i64 n, .int .i64 n, .slice (some ⟨w.heap.size + 2, 0, none⟩) p p]) (fun iv _ => n - (intOf iv).toNat)
  case atStart => exact ⟨0, by omega, rfl, HG.out, HS.out⟩
  case round =>
    clear HG HS
    obtain ⟨i, hi, rfl, hb, hs⟩ := hrel
    have HB := hx hb
    have HS := hx hs
    clear hb hs
    by_cases hlt : i < n
    · have hj : (i : Int) < (n : Int) := by omega
      have hre := HRE.out i hlt
      have HST := hx (HC1.out i hlt)
      have c2 := HS.out.r4.cell (i := 2) rfl
      obtain ⟨q, hq⟩ : ∃ q, i * n = q := ⟨_, rfl⟩
      have hqi : (i : Int) * (n : Int) = (q : Int) := by rw [← hq, Int.natCast_mul]
      rw [hq] at hre HST
      obtain ⟨u, hu⟩ : ∃ u, (idC n i)[q + i]? = some u := ⟨_, List.getElem?_eq_getElem (by rw [HCL.out]; omega)⟩
      have c1 := HB.out.cell hu
      have f1 := HB.out.free
      have hqp : (q : Int) + (i : Int) < (p : Int) := by omega
      have HB2 := hx (show Blk (wr.setCell ⟨w.heap.size + 2, q + i, none⟩ (.int .u8 1)) (w.heap.size + 2) (idC n (i + 1)) 5 by rw [← HST.out]; exact HB.out.set (q + i) _)
      have HS2 := hx (HS.out.set (a := ⟨w.heap.size + 2, q + i, none⟩) (g := w.heap.size + 2) rfl (by omega) HNE.out (.int .u8 1))
      clear HB HS HST hq hu
      go_wp2_with fail
      go_roundw
      case rel => exact ⟨i + 1, by omega, by go_num, HB2.out, HS2.out⟩
      case measure => simp [intOf] <;> omega
    · obtain rfl : i = n := by omega
      have cs0 := HS.out.r4.cell (i := 0) rfl
      have cs1 := HS.out.r4.cell (i := 1) rfl
      have cs2 := HS.out.r4.cell (i := 2) rfl
      have ct0 := HS.out.r2.cell (i := 0) rfl
      have ct1 := HS.out.r2.cell (i := 1) rfl
      have ct2 := HS.out.r2.cell (i := 2) rfl
      have hf := HS.out.r2.free
      have HP := hx HS.out.put
      go_wp2_with fail
      refine bodyPost_ret (ret_cq rfl _ w.heap.size _ _ _ _ rfl rfl HP.out.1 Try.underlying41 rfl infoMx) rfl ⟨w.heap.size + 2, rfl, by omega, ?_, HS.out.k.trans HP.out.2 (fun _ h => by simp at h) (fun x hx => by simp at hx; right; omega)⟩
      have h := HP.out.2.blk HB.out (by simp)
      rw [HC2.out] at h
      exact h
end Go.Proofs.Ytjgnngnknhkpmaa
