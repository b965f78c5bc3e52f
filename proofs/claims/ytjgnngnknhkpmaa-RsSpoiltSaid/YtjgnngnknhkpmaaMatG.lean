/- The program's matrices: Mul, the walk. -/
import Derived.Test.YtjgnngnknhkpmaaMatF
namespace Go.Proofs.Ytjgnngnknhkpmaa
open Go Go.RowKit
structure MlS (w wr : World) (b8 : Nat) (xs ys vs : List Value) : Prop where
  r0 : Blk wr w.heap.size xs 41
  r1 : Blk wr (w.heap.size + 1) ys 41
  r2 : Blk wr (w.heap.size + 2) [.int .i64 0, .int .i64 0, .slice none 0 0] 41
  r8 : Blk wr b8 vs 41
  k : Kept [] w wr
  lt : w.heap.size + 2 < b8
theorem MlS.kept {w wr w2 : World} {b8 : Nat} {xs ys vs : List Value} (s : MlS w wr b8 xs ys vs) (hk : Kept [] wr w2) : MlS w w2 b8 xs ys vs := ⟨hk.blk s.r0 (by simp), hk.blk s.r1 (by simp), hk.blk s.r2 (by simp), hk.blk s.r8 (by simp), s.k.trans0 hk, s.lt⟩
theorem MlS.mixed {w wr w2 : World} {b8 g : Nat} {xs ys vs : List Value} (s : MlS w wr b8 xs ys vs) (hg : w.heap.size + 2 < g) (hne : g ≠ b8) (hk : Kept [g] wr w2) : MlS w w2 b8 xs ys vs :=
  ⟨hk.blk s.r0 (by simp; omega), hk.blk s.r1 (by simp; omega), hk.blk s.r2 (by simp; omega), hk.blk s.r8 (by simp; omega), s.k.trans hk (fun _ h => by simp at h) (fun x hx => by simp at hx; right; omega), s.lt⟩
theorem MlS.put {w wr : World} {b8 : Nat} {xs ys : List Value} {x y z : Value} (s : MlS w wr b8 xs ys [x, y, z]) : Blk (((wr.setCell ⟨w.heap.size + 2, 0, none⟩ x).setCell ⟨w.heap.size + 2, 1, none⟩ y).setCell ⟨w.heap.size + 2, 2, none⟩ z) (w.heap.size + 2) [x, y, z] 41 ∧ Kept [w.heap.size + 2] wr (((wr.setCell ⟨w.heap.size + 2, 0, none⟩ x).setCell ⟨w.heap.size + 2, 1, none⟩ y).setCell ⟨w.heap.size + 2, 2, none⟩ z) :=
  ⟨((s.r2.set 0 x).set 1 y).set 2 z, (((Kept.refl [w.heap.size + 2] wr).setCell (p := ⟨w.heap.size + 2, 0, none⟩) (.inl (by simp)) x).setCell (p := ⟨w.heap.size + 2, 1, none⟩) (.inl (by simp)) y).setCell (p := ⟨w.heap.size + 2, 2, none⟩) (.inl (by simp)) z⟩
/-- Three boxes, laid one behind another. -/
theorem three_new (w : World) (xs ys zs : List Value) (T : TypeId) : Blk (((w.alloc (.cells xs.toArray T)).alloc (.cells ys.toArray T)).alloc (.cells zs.toArray T)) w.heap.size xs T ∧ Blk (((w.alloc (.cells xs.toArray T)).alloc (.cells ys.toArray T)).alloc (.cells zs.toArray T)) (w.heap.size + 1) ys T ∧ Blk (((w.alloc (.cells xs.toArray T)).alloc (.cells ys.toArray T)).alloc (.cells zs.toArray T)) (w.heap.size + 2) zs T ∧ Kept [] w (((w.alloc (.cells xs.toArray T)).alloc (.cells ys.toArray T)).alloc (.cells zs.toArray T)) := by
  refine ⟨((Blk.new w xs T).alloc _).alloc _, ?_, ?_, (((Kept.refl [] w).alloc _).alloc _).alloc _⟩
  · have h := (Blk.new (w.alloc (.cells xs.toArray T)) ys T).alloc (.cells zs.toArray T)
    rw [World.size_alloc] at h
    exact h
  · have h := Blk.new ((w.alloc (.cells xs.toArray T)).alloc (.cells ys.toArray T)) zs T
    rw [World.size_alloc, World.size_alloc] at h
    exact h
set_option maxRecDepth 100000 in
set_option maxHeartbeats 8000000 in
theorem mmul_any (t ba ra ca capa bb cb capb : Nat) (ma mb : List (List Nat)) (resta restb : List Value) (w : World) (hT : Blk w t (tabC 255) 73) (hA : Blk w ba (cellsM ma resta) 5) (hma : Mt ra ca ma) (hB : Blk w bb (cellsM mb restb) 5) (hmb : Mt ca cb mb)
    (hra : ra ≤ 255) (hca : ca ≤ 255) (hcb : cb ≤ 255) (hca0 : 1 ≤ ca) (hcb0 : 1 ≤ cb) (hcapa : ra * ca ≤ capa) (hcapb : ca * cb ≤ capb) :
    Calls Try.prog 30 #[.pointer (some ⟨t, 0, none⟩), mv ba ra ca capa, mv bb ca cb capb] w fun e w' => ∃ g, e = .returned (.tuple #[mv g ra cb (ra * cb), .int .i64 0]) ∧ w.heap.size ≤ g ∧ Blk w' g (cellsM (mulM cb ma mb) []) 5 ∧ Kept [] w w' := by
  have hz := zeroMx
  have HT := hx hT
  have HA := hx hA
  have HB := hx hB
  have HMA := hx hma
  have HMB := hx hmb
  have HLA := hx hma.rows
  have HLB := hx hmb.rows
  have HCAP := hx (And.intro hcapa hcapb)
  have HMS := hx (fun i k (hk : k ≤ ca) => mulS_mt (c := cb) hmb ma i k hk)
  have HRA := hx (fun w => right_any ba ra ca capa w hra hca)
  have HRB := hx (fun w => right_any bb ca cb capb w hca hcb)
  have HNW := hx (fun w => mnew_any ra cb w hra hcb)
  have HWA := hx (fun i w hi => row_any ba ra ca capa i w hra hca hca0 hi hcapa)
  have HWB := hx (fun i w hi => row_any bb ca cb capb i w hca hcb hcb0 hi hcapb)
  have HWG := hx (fun g i w hi => row_any g ra cb (ra * cb) i w hra hcb hcb0 hi (Nat.le_refl _))
  have H3 := hx (three_new w [.int .i64 (ra : Int), .int .i64 (ca : Int), .slice (some ⟨ba, 0, none⟩) (ra * ca) capa] [.int .i64 (ca : Int), .int .i64 (cb : Int), .slice (some ⟨bb, 0, none⟩) (ca * cb) capb] [.int .i64 0, .int .i64 0, .slice none 0 0] 41)
  have HLTS := hx (show t < w.heap.size ∧ ba < w.heap.size ∧ bb < w.heap.size from ⟨hT.lt, hA.lt, hB.lt⟩)
  have hra1 : (ra : Int) ≤ 255 := by omega
  have hca1 : (ca : Int) ≤ 255 := by omega
  unfold mv at *
  clear hT hA hma hB hmb hcapa hcapb
  go_enter Try.func30, Try.ntmps30
  go_wp2_with fail
  clear hz
  generalize ((w.alloc (.cells #[.int .i64 (ra : Int), .int .i64 (ca : Int), .slice (some ⟨ba, 0, none⟩) (ra * ca) capa] 41)).alloc (.cells #[.int .i64 (ca : Int), .int .i64 (cb : Int), .slice (some ⟨bb, 0, none⟩) (ca * cb) capb] 41)).alloc (.cells #[.int .i64 0, .int .i64 0, .slice none 0 0] 41) = W0 at *
  refine (HRA.out W0).mono ?_
  rintro e w1 ⟨rfl, hk1⟩
  have K1 := hx (H3.out.2.2.2.trans0 hk1)
  have D0 := hx (hk1.blk H3.out.1 (by simp))
  have D1 := hx (hk1.blk H3.out.2.1 (by simp))
  have D2 := hx (hk1.blk H3.out.2.2.1 (by simp))
  clear hk1 H3 HRA
  have c10 := D1.out.cell (i := 0) rfl
  have c11 := D1.out.cell (i := 1) rfl
  have c12 := D1.out.cell (i := 2) rfl
  go_wp2_with fail
  refine (HRB.out w1).mono ?_
  rintro e w2 ⟨rfl, hk2⟩
  have K2 := hx (K1.out.trans0 hk2)
  have D02 := hx (hk2.blk D0.out (by simp))
  have D12 := hx (hk2.blk D1.out (by simp))
  have D22 := hx (hk2.blk D2.out (by simp))
  clear hk2 D0 D1 D2 K1 HRB c10 c11 c12
  have c00 := D02.out.cell (i := 0) rfl
  have c01 := D02.out.cell (i := 1) rfl
  have c10 := D12.out.cell (i := 0) rfl
  have c11 := D12.out.cell (i := 1) rfl
  go_wp2_with fail
  refine (HNW.out w2).mono ?_
  rintro e w3 ⟨rfl, hb3, hk3⟩
  obtain ⟨g, hg⟩ : ∃ g, w2.heap.size + 1 = g := ⟨_, rfl⟩
  rw [hg] at hb3 ⊢
  have hgl : w.heap.size + 2 < g := by have h := D22.out.lt; omega
  have HG := hx (show Blk (w3.alloc (.cells #[.int .i64 (ra : Int), .int .i64 (cb : Int), .slice (some ⟨g, 0, none⟩) (ra * cb) (ra * cb)] 41)) g (cellsM (mulS cb ma mb 0 0) []) 5 by
    have h0 := mulS_0 cb ma mb
    rw [HLA.out] at h0
    rw [← h0]
    exact hb3.alloc _)
  have HS := hx (show MlS w (w3.alloc (.cells #[.int .i64 (ra : Int), .int .i64 (cb : Int), .slice (some ⟨g, 0, none⟩) (ra * cb) (ra * cb)] 41)) w3.heap.size [.int .i64 (ra : Int), .int .i64 (ca : Int), .slice (some ⟨ba, 0, none⟩) (ra * ca) capa] [.int .i64 (ca : Int), .int .i64 (cb : Int), .slice (some ⟨bb, 0, none⟩) (ca * cb) capb] [.int .i64 (ra : Int), .int .i64 (cb : Int), .slice (some ⟨g, 0, none⟩) (ra * cb) (ra * cb)] from
    ⟨(hk3.blk D02.out (by simp)).alloc _, (hk3.blk D12.out (by simp)).alloc _, (hk3.blk D22.out (by simp)).alloc _, Blk.new w3 _ _, (K2.out.trans0 hk3).alloc _, by have h := hb3.lt; omega⟩)
  have HGN := hx (show g ≠ w3.heap.size ∧ w.heap.size + 2 < g by have h := hb3.lt; omega)
  clear hb3 hk3 hg hgl c00 c01 c10 c11 D02 D12 D22 K2 HNW
  go_upto_region 4 with fail
  generalize w3.heap.size = b8 at *
  generalize w3.alloc (.cells #[.int .i64 (ra : Int), .int .i64 (cb : Int), .slice (some ⟨g, 0, none⟩) (ra * cb) (ra * cb)] 41) = w4 at *
  have c00 := HS.out.r0.cell (i := 0) rfl
  go_wp2_with fail
  go_loopw [39] (fun iv wr => ∃ i : Nat, i ≤ ra ∧ iv = .int .i64 i ∧ Blk wr g (cellsM (mulS cb ma mb i 0) []) 5 ∧ MlS w wr b8 [.int .i64 (ra : Int), .int .i64 (ca : Int), .slice (some ⟨ba, 0, none⟩) (ra * ca) capa] [.int .i64 (ca : Int), .int .i64 (cb : Int), .slice (some ⟨bb, 0, none⟩) (ca * cb) capb] [.int .i64 (ra : Int), .int .i64 (cb : Int), .slice (some ⟨g, 0, none⟩) (ra * cb) (ra * cb)]) (fun iv _ => ra - (intOf iv).toNat)
  case atStart => exact ⟨0, by omega, rfl, HG.out, HS.out⟩
  case round =>
    clear HG HS c00
    obtain ⟨i, hi, rfl, hb, hs⟩ := hrel
    have HB1 := hx hb
    have HS := hx hs
    clear hb hs
    by_cases hlt : i < ra
    · have hj : (i : Int) < (ra : Int) := by omega
      have c00 := HS.out.r0.cell (i := 0) rfl
      have c01 := HS.out.r0.cell (i := 1) rfl
      have c02 := HS.out.r0.cell (i := 2) rfl
      go_wp2_with fail
      refine (HWA.out i wr hlt).mono ?_
      rintro e w5 ⟨rfl, hk5⟩
      have HB5 := hx (hk5.blk HB1.out (by simp))
      have HS5 := hx (HS.out.kept hk5)
      clear hk5 HB1 HS c00 c01 c02
      go_wp2_with fail
      go_loopw [46] (fun kv wr => ∃ k : Nat, k ≤ ca ∧ kv = .int .i64 k ∧ Blk wr g (cellsM (mulS cb ma mb i k) []) 5 ∧ MlS w wr b8 [.int .i64 (ra : Int), .int .i64 (ca : Int), .slice (some ⟨ba, 0, none⟩) (ra * ca) capa] [.int .i64 (ca : Int), .int .i64 (cb : Int), .slice (some ⟨bb, 0, none⟩) (ca * cb) capb] [.int .i64 (ra : Int), .int .i64 (cb : Int), .slice (some ⟨g, 0, none⟩) (ra * cb) (ra * cb)]) (fun kv _ => ca - (intOf kv).toNat)
      case atStart => exact ⟨0, by omega, rfl, HB5.out, HS5.out⟩
      case round =>
        clear HB5 HS5
        obtain ⟨k, hk, rfl, hb, hs⟩ := hrel
        have HB1 := hx hb
        have HS := hx hs
        clear hb hs
        by_cases hlk : k < ca
        · have hjk : (k : Int) < (ca : Int) := by omega
          have cra := row_cells (HS.out.k.blk HA.out (by simp)) HMA.out hlt k hlk
          have hx8 := (HMA.out.rowOct hlt).at k
          have HRW := hx (mulS_rw cb ma mb i k (by rw [HLA.out]; exact hlt))
          have HST := hx (mulS_step cb ma mb i k (by rw [HLA.out]; exact hlt))
          unfold bn at cra
          generalize (rw ma i).getD k 0 = x at *
          have c10 := HS.out.r1.cell (i := 0) rfl
          have c11 := HS.out.r1.cell (i := 1) rfl
          have c12 := HS.out.r1.cell (i := 2) rfl
          have c80 := HS.out.r8.cell (i := 0) rfl
          have c81 := HS.out.r8.cell (i := 1) rfl
          have c82 := HS.out.r8.cell (i := 2) rfl
          have hkd : Kept [] wr wr.drew := (Kept.refl [] wr).drew
          have HR1 := hx (fun w9 (_ : Kept [] wr w9) => HWG.out g i w9 hlt)
          have HR2 := hx (fun w9 (_ : Kept [] wr w9) => HWB.out k w9 hlk)
          have HMX := hx (fun w9 (hk : Kept [] wr w9) => mixrow_any (cap1 := cb) (cap2 := cb) w9 (hk.blk (HS.out.k.blk HT.out (by simp)) (by simp)) hx8 (hk.blk HB1.out (by simp)) (HMS.out i k (by omega)) (by rw [HLA.out]; exact hlt) (hk.blk (HS.out.k.blk HB.out (by simp)) (by simp)) HMB.out hlk (.inl (by have h := HLTS.out; have h2 := HGN.out; omega)) (by have h := HLTS.out; have h2 := HGN.out; omega) hcb)
          have flag : True := trivial
          go_upto_region 10 with fail
          go_region_with (first | (have flag2 := flag; clear flag flag2; go_at_call 46; refine (HR1.out _ (by assumption)).mono ?_; rintro e w9 ⟨rfl, hk9⟩; have hkk9 : Kept [] wr w9 := Kept.trans0 (by assumption) hk9; have d0 := kept_cell hkk9 c10; have d1 := kept_cell hkk9 c11; have d2 := kept_cell hkk9 c12; have e0 := kept_cell hkk9 c80; have e1 := kept_cell hkk9 c81; have e2 := kept_cell hkk9 c82; clear hk9) | (go_at_call 46; refine (HR2.out _ (by assumption)).mono ?_; rintro e w9 ⟨rfl, hk9⟩; have hkk9 : Kept [] wr w9 := Kept.trans0 (by assumption) hk9; have d0 := kept_cell hkk9 c10; have d1 := kept_cell hkk9 c11; have d2 := kept_cell hkk9 c12; have e0 := kept_cell hkk9 c80; have e1 := kept_cell hkk9 c81; have e2 := kept_cell hkk9 c82; clear hk9) | (go_at_call 51; refine (HMX.out _ (by assumption)).mono ?_; rintro e wm ⟨rfl, hbm, hkm⟩; have HBM := hx hbm; have HSM := hx ((HS.out.kept (by assumption)).mixed HGN.out.2 HGN.out.1 hkm); clear hbm hkm))
          all_goals
            have HB2 := HBM.out
            rw [HRW.out, HST.out] at HB2
            replace HB2 := hx HB2
            clear HBM HB1 HS HRW HST c10 c11 c12 c80 c81 c82 cra HR1 HR2 HMX
            go_wp2_with fail
            go_roundw
            case rel => exact ⟨k + 1, by omega, by go_num, HB2.out, HSM.out⟩
            case measure => simp [intOf] <;> omega
        · have hjk : ¬ (k : Int) < (ca : Int) := by omega
          obtain rfl : k = ca := by omega
          have HB2 := HB1.out
          have hnx := mulS_next cb ma mb i
          rw [HLB.out] at hnx
          rw [hnx] at HB2
          replace HB2 := hx HB2
          clear hnx
          go_wp2_with fail
          go_roundw
          case rel => exact ⟨i + 1, by omega, by go_num, HB2.out, HS.out⟩
          case measure => simp [intOf] <;> omega
    · obtain rfl : i = ra := by omega
      have cs0 := HS.out.r8.cell (i := 0) rfl
      have cs1 := HS.out.r8.cell (i := 1) rfl
      have cs2 := HS.out.r8.cell (i := 2) rfl
      have ct0 := HS.out.r2.cell (i := 0) rfl
      have ct1 := HS.out.r2.cell (i := 1) rfl
      have ct2 := HS.out.r2.cell (i := 2) rfl
      have hf := HS.out.r2.free
      have HP := hx HS.out.put
      go_wp2_with fail
      refine bodyPost_ret (ret_cq rfl _ (w.heap.size + 2) _ _ _ _ rfl rfl HP.out.1 Try.underlying41 rfl infoMx) rfl ⟨g, rfl, by have h := HGN.out; omega, ?_, HS.out.k.trans HP.out.2 (fun _ h => by simp at h) (fun x hx => by simp at hx; right; omega)⟩
      have h := HP.out.2.blk HB1.out (by have h := HGN.out; simp; omega)
      have hal := mulS_all cb ma mb
      rw [HLA.out] at hal
      rw [hal] at h
      exact h
end Go.Proofs.Ytjgnngnknhkpmaa
