/- The program's matrices: Clone, pivot. -/
import Derived.Test.YtjgnngnknhkpmaaMatG
namespace Go.Proofs.Ytjgnngnknhkpmaa
open Go Go.RowKit
theorem bts_bn (l : List Nat) (h : Oct l) : (l.map UInt8.ofNat).map bv = l.map bn := by
  rw [List.map_map]
  refine List.map_congr_left fun x hx => ?_
  have h1 := h x hx
  simp only [Function.comp, bv, bn]
  rw [UInt8.toNat_ofNat', Nat.mod_eq_of_lt (by simpa using h1)]
theorem bn_bts (l : List UInt8) : (l.map UInt8.toNat).map bn = l.map bv := by
  rw [List.map_map]
  rfl
theorem flat_oct {r c : Nat} {m : List (List Nat)} (h : Mt r c m) : Oct m.flatten := by
  intro x hx
  rw [List.mem_flatten] at hx
  obtain ⟨l, hl, hx⟩ := hx
  exact h.oct l hl x hx
theorem flat_bts {w : World} {b r c cap : Nat} {m : List (List Nat)} {rest : List Value} (hb : Blk w b (cellsM m rest) 5) (hm : Mt r c m) (hcap : r * c ≤ cap) (hct : cap ≤ maxLen) : Bts w (some ⟨b, 0, none⟩) (r * c) cap (m.flatten.map UInt8.ofNat) := by
  have hl : m.flatten.length = r * c := by rw [flat_len m c hm.cols, hm.rows]
  have h := bts_blk (l := m.flatten.map UInt8.ofNat) (rest := rest) (cap := cap) (T := 5) (by rw [bts_bn _ (flat_oct hm)]; exact hb) (by rw [List.length_map, hl]; exact hcap) hct
  rw [List.length_map, hl] at h
  exact h
theorem grown_blk0 {w w2 : World} {b : Nat} {xs : List Value} {T : TypeId} (hg : w.grownBy w2 none) (h : Blk w b xs T) : Blk w2 b xs T := by
  have hlt := h.lt
  unfold Blk at *
  rw [hg.block b hlt (by simp)]
  exact h
theorem kept_grown0 {w w1 w2 : World} (hk : Kept [] w w1) (hg : w1.grownBy w2 none) : Kept [] w w2 := hk.grown hg (fun k hk => by cases hk)
theorem second_new (w : World) (xs ys : List Value) (T : TypeId) (o : Obj) : Blk (((w.alloc (.cells xs.toArray T)).alloc (.cells ys.toArray T)).alloc o) (w.heap.size + 1) ys T := by
  have h := (Blk.new (w.alloc (.cells xs.toArray T)) ys T).alloc o
  rw [World.size_alloc] at h
  exact h
set_option maxRecDepth 100000 in
set_option maxHeartbeats 4000000 in
theorem clone_any (b r c cap : Nat) (m : List (List Nat)) (rest : List Value) (w : World) (hb : Blk w b (cellsM m rest) 5) (hm : Mt r c m) (hr : r ≤ 255) (hc : c ≤ 255) (hr0 : 1 ≤ r) (hc0 : 1 ≤ c) (hcap : r * c ≤ cap) (hct : cap ≤ maxLen) :
    Calls Try.prog 35 #[mv b r c cap] w fun e w' => ∃ g cap' rest', e = .returned (mv g r c cap') ∧ w.heap.size ≤ g ∧ r * c ≤ cap' ∧ cap' ≤ maxLen ∧ Blk w' g (cellsM m rest') 5 ∧ Kept [] w w' := by
  have hz := zeroMx
  have hpb := mul_le hr hc
  have HBT := hx (fun w9 (hk : Kept [] w w9) => flat_bts (hk.blk hb (by simp)) hm hcap hct)
  have HFL := hx (show m.flatten.length = r * c by rw [flat_len m c hm.cols, hm.rows])
  have HOC := hx (flat_oct hm)
  have hp0 : 1 ≤ r * c := Nat.le_trans (by omega) (Nat.mul_le_mul hr0 hc0)
  unfold mv
  obtain ⟨p, hp⟩ : ∃ p, r * c = p := ⟨_, rfl⟩
  rw [hp] at hpb HBT HFL hp0 ⊢
  have HL := hx hb.lt
  clear hb hm hcap hct hp
  go_enter Try.func35, Try.ntmps35
  go_wp2_with (at_builtin; refine wpList_grow8 rfl (.tmp 3) (.tmp 5) rfl (some ⟨w.heap.size + 2, 0, none⟩) 0 0 [] rfl ⟨rfl, Nat.le_refl _, by decide, by simp, by simp⟩ (some ⟨b, 0, none⟩) p cap (m.flatten.map UInt8.ofNat) rfl (HBT.out _ ((((Kept.refl [] w).alloc _).alloc _).alloc _)) (by omega) (by omega) (by omega) ?_; intro v' w8 ho8 hg8; obtain ⟨g, cap', rest', rfl, hgb, hcp, hcm, hbg, hlg, hlc⟩ := own_get ho8 (by omega); have HG := hx hbg; have HE := hx (And.intro hgb (And.intro hcp hcm)); have BX := hx (grown_blk0 hg8 ((((Blk.new w [.int .i64 (r : Int), .int .i64 (c : Int), .slice (some ⟨b, 0, none⟩) p cap] 41).alloc _).alloc _))); have BR := hx (grown_blk0 hg8 (second_new w [.int .i64 (r : Int), .int .i64 (c : Int), .slice (some ⟨b, 0, none⟩) p cap] [.int .i64 0, .int .i64 0, .slice none 0 0] 41 (.cells #[] 5))); have KK := hx (kept_grown0 ((((Kept.refl [] w).alloc _).alloc _).alloc _) hg8); have x0 := BX.out.cell (i := 0) rfl; have x1 := BX.out.cell (i := 1) rfl; have x2 := BX.out.cell (i := 2) rfl; have y0 := BR.out.cell (i := 0) rfl; have y1 := BR.out.cell (i := 1) rfl; have y2 := BR.out.cell (i := 2) rfl; have fx := BX.out.free; have fy := BR.out.free; clear ho8 hg8 hgb hcp hcm hbg hlg hlc hz)
  have hgg : w.heap.size + 3 ≤ g := by have h := HE.out.1; simpa using h
  have hk8 : Kept [w.heap.size, w.heap.size + 1] w8 ((((w8.setCell ⟨w.heap.size, 2, none⟩ (.slice (some ⟨g, 0, none⟩) p cap')).setCell ⟨w.heap.size + 1, 0, none⟩ (.int .i64 (r : Int))).setCell ⟨w.heap.size + 1, 1, none⟩ (.int .i64 (c : Int))).setCell ⟨w.heap.size + 1, 2, none⟩ (.slice (some ⟨g, 0, none⟩) p cap')) :=
    ((((Kept.refl [w.heap.size, w.heap.size + 1] w8).setCell (p := ⟨w.heap.size, 2, none⟩) (.inl (by simp)) _).setCell (p := ⟨w.heap.size + 1, 0, none⟩) (.inl (by simp)) _).setCell (p := ⟨w.heap.size + 1, 1, none⟩) (.inl (by simp)) _).setCell (p := ⟨w.heap.size + 1, 2, none⟩) (.inl (by simp)) _
  have hr8 : Blk ((((w8.setCell ⟨w.heap.size, 2, none⟩ (.slice (some ⟨g, 0, none⟩) p cap')).setCell ⟨w.heap.size + 1, 0, none⟩ (.int .i64 (r : Int))).setCell ⟨w.heap.size + 1, 1, none⟩ (.int .i64 (c : Int))).setCell ⟨w.heap.size + 1, 2, none⟩ (.slice (some ⟨g, 0, none⟩) p cap')) (w.heap.size + 1) [.int .i64 (r : Int), .int .i64 (c : Int), .slice (some ⟨g, 0, none⟩) p cap'] 41 :=
    (((BR.out.set_ne (a := ⟨w.heap.size, 2, none⟩) (by simp) _).set 0 _).set 1 _).set 2 _
  refine bodyPost_ret (ret_c rfl _ (w.heap.size + 1) _ _ _ rfl hr8 Try.underlying41 rfl infoMx) rfl ⟨g, cap', rest', by simp, by omega, by have h := HE.out.2.1; omega, HE.out.2.2, ?_, KK.out.trans hk8 (fun _ h => by simp at h) (fun x hx => by simp at hx; right; omega)⟩
  have h := hk8.blk HG.out (by simp; omega)
  rw [List.nil_append, bts_bn _ HOC.out] at h
  exact h
/-- The first row from i on that has something in that column. -/
def pivF (m : List (List Nat)) (col : Nat) : Nat → Nat → Option Nat
  | _, 0 => none
  | i, f + 1 => if (rw m i).getD col 0 ≠ 0 then some i else pivF m col (i + 1) f
def pivV : Option Nat → Int
  | none => -1
  | some k => k
theorem pivF_go (m : List (List Nat)) (col i r : Nat) (h : i < r) (h0 : (rw m i).getD col 0 = 0) : pivF m col i (r - i) = pivF m col (i + 1) (r - (i + 1)) := by
  rw [show r - i = (r - (i + 1)) + 1 by omega, pivF, if_neg (by simpa using h0)]
theorem pivF_at (m : List (List Nat)) (col i r : Nat) (h : i < r) (h0 : (rw m i).getD col 0 ≠ 0) : pivF m col i (r - i) = some i := by
  rw [show r - i = (r - (i + 1)) + 1 by omega, pivF, if_pos h0]
theorem pivF_end (m : List (List Nat)) (col r : Nat) : pivF m col r (r - r) = none := by rw [Nat.sub_self, pivF]
theorem pivF_lt (m : List (List Nat)) (col : Nat) : ∀ f i k, pivF m col i f = some k → i ≤ k ∧ k < i + f ∧ (rw m k).getD col 0 ≠ 0 := by
  intro f
  induction f with
  | zero => intro i k h; simp [pivF] at h
  | succ f ih =>
    intro i k h
    unfold pivF at h
    split at h
    · rename_i h1
      simp only [Option.some.injEq] at h
      subst h
      exact ⟨by omega, by omega, h1⟩
    · have := ih _ _ h
      exact ⟨by omega, by omega, this.2.2⟩
set_option maxRecDepth 100000 in
set_option maxHeartbeats 4000000 in
theorem pivot_any (b r c cap i0 col : Nat) (m : List (List Nat)) (rest : List Value) (w : World) (hb : Blk w b (cellsM m rest) 5) (hm : Mt r c m) (hr : r ≤ 255) (hc : c ≤ 255) (hi0 : i0 ≤ r) (hcol : col < c) (hcap : r * c ≤ cap) :
    Calls Try.prog 48 #[mv b r c cap, .int .i64 i0, .int .i64 col] w fun e w' => e = .returned (.int .i64 (pivV (pivF m col i0 (r - i0)))) ∧ Kept [] w w' := by
  have HW := hx (fun i w hi => row_any b r c cap i w hr hc (by omega) hi hcap)
  have HBK := hx (fun w9 (hk : Kept [] w w9) i (hi : i < r) => row_cells (hk.blk hb (by simp)) hm hi col hcol)
  have B0 := hx (Blk.new w [.int .i64 (r : Int), .int .i64 (c : Int), .slice (some ⟨b, 0, none⟩) (r * c) cap] 41)
  have K0 := hx ((Kept.refl [] w).alloc (.cells #[.int .i64 (r : Int), .int .i64 (c : Int), .slice (some ⟨b, 0, none⟩) (r * c) cap] 41))
  have HGO := hx (fun i h h0 => pivF_go m col i r h h0)
  have HAT := hx (fun i h h0 => pivF_at m col i r h h0)
  have HEN := hx (pivF_end m col r)
  have hr1 : (r : Int) ≤ 255 := by omega
  have hcol1 : (col : Int) < (c : Int) := by omega
  obtain ⟨V, hV⟩ : ∃ V, pivF m col i0 (r - i0) = V := ⟨_, rfl⟩
  have HV := hx hV
  unfold mv at *
  rw [hV]
  clear hb hm hcap hV
  go_enter Try.func48, Try.ntmps48
  go_wp2_with fail
  generalize w.alloc (.cells #[.int .i64 (r : Int), .int .i64 (c : Int), .slice (some ⟨b, 0, none⟩) (r * c) cap] 41) = W at *
  go_loopw [7] (fun iv wr => ∃ i : Nat, i ≤ r ∧ iv = .int .i64 i ∧ pivF m col i (r - i) = V ∧ Blk wr w.heap.size [.int .i64 (r : Int), .int .i64 (c : Int), .slice (some ⟨b, 0, none⟩) (r * c) cap] 41 ∧ Kept [] w wr) (fun iv _ => r - (intOf iv).toNat)
  case atStart => exact ⟨i0, hi0, rfl, HV.out, B0.out, K0.out⟩
  case round =>
    clear B0 K0 HV
    obtain ⟨i, hi, rfl, hv, hb, hk⟩ := hrel
    have HV := hx hv
    have HB := hx hb
    have HK := hx hk
    clear hv hb hk
    have c0 := HB.out.cell (i := 0) rfl
    have c1 := HB.out.cell (i := 1) rfl
    have c2 := HB.out.cell (i := 2) rfl
    by_cases hlt : i < r
    · have hj : (i : Int) < (r : Int) := by omega
      go_wp2_with fail
      refine (HW.out i wr hlt).mono ?_
      rintro e w2 ⟨rfl, hk2⟩
      have HB2 := hx (hk2.blk HB.out (by simp))
      have HK2 := hx (HK.out.trans0 hk2)
      have cc := HBK.out w2 HK2.out i hlt
      unfold bn at cc
      have HG1 := hx (HGO.out i hlt)
      have HA1 := hx (HAT.out i hlt)
      generalize (rw m i).getD col 0 = x at *
      clear HB HK hk2 c0 c1 c2
      by_cases h0 : x = 0
      · have h0b : ((x : Int) != 0) = false := by rw [h0]; rfl
        have HV2 := hx ((HG1.out h0).symm.trans HV.out)
        clear HG1 HA1 HV h0
        go_wp2_with fail
        go_roundw
        case rel => exact ⟨i + 1, by omega, by go_num, HV2.out, HB2.out, HK2.out⟩
        case measure => simp [intOf] <;> omega
      · have h0b : ((x : Int) != 0) = true := bne_iff_ne.2 (by omega)
        have HV2 := hx ((HA1.out h0).symm.trans HV.out)
        clear HG1 HA1 HV h0
        go_wp2_with fail
        go_ret
        exact ⟨by rw [← HV2.out]; rfl, HK2.out⟩
    · obtain rfl : i = r := by omega
      have HV2 := hx (HEN.out.symm.trans HV.out)
      go_wp2_with fail
      go_ret
      exact ⟨by rw [← HV2.out]; rfl, HK.out⟩
end Go.Proofs.Ytjgnngnknhkpmaa
