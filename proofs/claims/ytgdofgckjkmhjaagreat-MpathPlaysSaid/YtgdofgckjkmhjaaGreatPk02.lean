/- Parts of the proof. -/
import Derived.Test.YtgdofgckjkmhjaaGreatPk01
set_option linter.unusedSimpArgs false
set_option linter.unusedVariables false
namespace Go.Proofs.YtgdofgckjkmhjaaGreat
open Go Go.RowKit
set_option maxRecDepth 100000 in
set_option maxHeartbeats 1600000 in
theorem rtake_old (n : Nat) (s : Sn) (w : World) (ha : s.any = true) (ht : s.top < 4294967296) (hn : n < 4294967296) (h1 : ¬ 0 < behI n s.top) (hc0 : 0 ≤ s.came) (hc1 : s.came ≤ 1000000) (ht0 : 0 ≤ s.twice) (ht1 : s.twice ≤ 1000000) :
    Calls Tryz.prog 65 #[.agg (rsc s).toArray, .int .u32 n] w fun e w' => e = .returned (.tuple #[.agg (rsc (takeN s n).1).toArray, .int .i64 (takeN s n).2]) ∧ Kept [] w w' := by
  have HBeh := Lib.hid (fun w => rbehind_any n s.top w hn ht)
  have hbd := behI_bd n s.top hn ht
  obtain ⟨Z, hZ, hz⟩ := zeroRs'
  have hb := Blk.new w (rsc s) 32
  have c0 := fun ob => (hb.alloc ob).cell (i := 0) (v := .bool true) (by simp [rsc, ha])
  have HZ := Lib.hid hZ
  have HA := Lib.hid ha
  have HN := Lib.hid (And.intro hn ht)
  clear ha hb hZ hn ht
  go_enter Tryz.func65, Tryz.ntmps65
  go_upto_region 6 with fail
  clear c0
  have hk0 : Kept [] w ((w.alloc (.cells (rsc s).toArray 32)).alloc (.cells Z 32)) := ((Kept.refl _ _).alloc _).alloc _
  have b2 : Blk ((w.alloc (.cells (rsc s).toArray 32)).alloc (.cells Z 32)) w.heap.size (rsc s) 32 := (Blk.new w (rsc s) 32).alloc _
  have b4 : Blk ((w.alloc (.cells (rsc s).toArray 32)).alloc (.cells Z 32)) (w.heap.size + 1) (rsc sn0) 32 := by
    have h := Blk.new' (w.alloc (.cells (rsc s).toArray 32)) Z 32
    rw [HZ.out, show (w.alloc (.cells (rsc s).toArray 32)).heap.size = w.heap.size + 1 by simp] at h
    exact h
  generalize (w.alloc (.cells (rsc s).toArray 32)).alloc (.cells Z 32) = W at *
  have c1 := b2.cell (i := 1) (v := .int .u32 s.top) (by simp [rsc])
  have B2 := Lib.hid b2
  have B4 := Lib.hid b4
  have K0 := Lib.hid hk0
  have hf := b2.free
  clear b2 b4 hk0 hz
  go_wp2_with fail
  refine (HBeh.out _).mono ?_
  rintro e w1 ⟨rfl, rfl⟩
  by_cases h2 : behI n s.top ≤ -64
  · have z := Lib.hid (show takeN s n = (s, 90) by unfold takeN; rw [if_neg (by simp [HA.out]), if_neg (by omega), if_pos h2])
    have g1 : decide (behI n s.top ≤ -64) = true := by simp; exact h2
    clear h1 h2 hbd
    go_wp2_with (first
      | refine load_blk rfl 32 (.tmp 2) rfl w.heap.size rfl 32 _ _ B2.out Tryz.underlying32 rfl (infoRsn _) ?_
      | (refine store_blk rfl 32 (.tmp 4) (.tmp 26) rfl (w.heap.size + 1) rfl 32 _ _ rfl B4.out (by rw [rsc_len, rsc_len]) (infoRsn _) (rsc_one _) ?_; intro w5 hb5 hk5))
    exact bodyPost_ret (ret_blk2 rfl _ (w.heap.size + 1) _ _ _ _ rfl rfl hb5 Tryz.underlying32 rfl (infoRsn _)) rfl ⟨by rw [z.out]; rfl, Kept.behind K0.out hk5 (by omega)⟩
  · obtain ⟨k, hk⟩ : ∃ k : Nat, behI n s.top = -(k : Int) := ⟨(-(behI n s.top)).toNat, by omega⟩
    have hk64 : k < 64 := by omega
    have hkn : (-(behI n s.top)).toNat = k := by omega
    rw [hk]
    have g1 : decide (-(k : Int) ≤ -64) = false := by simp <;> omega
    have g2 : decide (-(k : Int) ≤ 0) = true := by simp <;> omega
    have g3 : (k : Int) < 64 := by omega
    have ck := B2.out.cell (rsc_mark s k hk64)
    cases hbit : s.bits.testBit k
    · have z := Lib.hid (show takeN s n = ({ s with bits := setB s.bits k, came := s.came + 1 }, 0) by unfold takeN; rw [if_neg (by simp [HA.out]), if_neg (by omega), if_neg h2, hkn, if_neg (by simp [hbit])])
      have c66 := B2.out.cell (rsc_tail s 0 (by omega))
      have e2 := (B2.out.set (2 + k) (.bool true)).set 66 (.int .i64 (s.came + 1))
      rw [rsc_set _ _ hk64, rsc_set66] at e2
      have e4 := (B4.out.set_ne (a := ⟨w.heap.size, 2 + k, none⟩) (by simp) (.bool true)).set_ne (a := ⟨w.heap.size, 66, none⟩) (by simp) (.int .i64 (s.came + 1))
      have k6 := (K0.out.setCell (p := ⟨w.heap.size, 2 + k, none⟩) (.inr (by simp)) (.bool true)).setCell (p := ⟨w.heap.size, 66, none⟩) (.inr (by simp)) (.int .i64 (s.came + 1))
      have E2 := Lib.hid e2
      have E4 := Lib.hid e4
      have K6 := Lib.hid k6
      rw [hbit] at ck
      have hcv : ([.int .i64 s.came, .int .i64 s.twice, .int .i64 s.lost] : List Value)[0]? = some (.int .i64 s.came) := rfl
      clear h1 h2 hbd hk hkn hbit e2 e4 k6
      go_upto_region 15 with fail
      generalize (W.setCell ⟨w.heap.size, 2 + k, none⟩ (.bool true)).setCell ⟨w.heap.size, 66, none⟩ (.int .i64 (s.came + 1)) = W2 at *
      go_wp2_with (first
        | refine load_blk rfl 32 (.tmp 2) rfl w.heap.size rfl 32 _ _ E2.out Tryz.underlying32 rfl (infoRsn _) ?_
        | (refine store_blk rfl 32 (.tmp 4) (.tmp 47) rfl (w.heap.size + 1) rfl 32 _ _ rfl E4.out (by rw [rsc_len, rsc_len]) (infoRsn _) (rsc_one _) ?_; intro w5 hb5 hk5))
      exact bodyPost_ret (ret_blk2 rfl _ (w.heap.size + 1) _ _ _ _ rfl rfl hb5 Tryz.underlying32 rfl (infoRsn _)) rfl ⟨by rw [z.out]; rfl, Kept.behind K6.out hk5 (by omega)⟩
    · have z := Lib.hid (show takeN s n = ({ s with twice := s.twice + 1 }, 171) by unfold takeN; rw [if_neg (by simp [HA.out]), if_neg (by omega), if_neg h2, hkn, if_pos hbit])
      have c67 := B2.out.cell (rsc_tail s 1 (by omega))
      have e2 := B2.out.set 67 (.int .i64 (s.twice + 1))
      rw [rsc_set67] at e2
      have e4 := B4.out.set_ne (a := ⟨w.heap.size, 67, none⟩) (by simp) (.int .i64 (s.twice + 1))
      have k6 := K0.out.setCell (p := ⟨w.heap.size, 67, none⟩) (.inr (by simp)) (.int .i64 (s.twice + 1))
      have E2 := Lib.hid e2
      have E4 := Lib.hid e4
      have K6 := Lib.hid k6
      rw [hbit] at ck
      clear h1 h2 hbd hk hkn hbit e2 e4 k6
      go_upto_region 12 with fail
      generalize W.setCell ⟨w.heap.size, 67, none⟩ (.int .i64 (s.twice + 1)) = W2 at *
      go_wp2_with (first
        | refine load_blk rfl 32 (.tmp 2) rfl w.heap.size rfl 32 _ _ E2.out Tryz.underlying32 rfl (infoRsn _) ?_
        | (refine store_blk rfl 32 (.tmp 4) (.tmp 38) rfl (w.heap.size + 1) rfl 32 _ _ rfl E4.out (by rw [rsc_len, rsc_len]) (infoRsn _) (rsc_one _) ?_; intro w5 hb5 hk5))
      exact bodyPost_ret (ret_blk2 rfl _ (w.heap.size + 1) _ _ _ _ rfl rfl hb5 Tryz.underlying32 rfl (infoRsn _)) rfl ⟨by rw [z.out]; rfl, Kept.behind K6.out hk5 (by omega)⟩
end Go.Proofs.YtgdofgckjkmhjaaGreat
namespace Go.Proofs.YtgdofgckjkmhjaaGreat
open Go Go.RowKit
theorem Part.range {w : World} {b o : Nat} {xs cs : List Value} {T : TypeId} (h : Blk w b xs T) (hp : Part xs o cs) : w.rangeAt b o cs := fun j v hv => h.part hp j v hv
/-- A part of a block is loaded as a whole. -/
theorem load_part {P : Program} {w : World} {ops : Array Oper} {rest : List Oper} {op : Oper} {a : Act} {Q : Exit → Act → World → Prop} (hgd : op.guard = none) (ty : TypeId) (x : Operand) (ho : op.op = .load ty x)
    (g o : Nat) (hx : a.eval x = .pointer (some ⟨g, o, none⟩)) (T : TypeId) (xs cs : List Value) (d : TypeDesc) (hb : Blk w g xs T) (hp : Part xs o cs)
    (hu : P.underlying ty = some d) (hd : d.isRow = true) (hi : (P.info? ty).map (·.size) = some cs.length)
    (h : wpList P ops Q rest (a.put op.dst (.agg cs.toArray)) w) : wpList P ops Q (op :: rest) a w :=
  wpList_load_mid hgd ty x ho g o hx cs d (hp.range hb) hu hd hi h
/-- A part of a block is laid anew as a whole. -/
theorem store_part {P : Program} {w : World} {ops : Array Oper} {rest : List Oper} {op : Oper} {a : Act} {Q : Exit → Act → World → Prop} (hgd : op.guard = none) (ty : TypeId) (x y : Operand) (ho : op.op = .store ty x y)
    (g o : Nat) (hx : a.eval x = .pointer (some ⟨g, o, none⟩)) (T : TypeId) (xs ys : List Value) (hy : a.eval y = .agg ys.toArray) (hb : Blk w g xs T) (hl : o + ys.length ≤ xs.length)
    (hi : (P.info? ty).map (·.size) = some ys.length) (h1 : ∀ v ∈ ys, v.oneCell' = true)
    (h : ∀ w', Blk w' g (setAll xs o ys) T → Kept [g] w w' → wpList P ops Q rest (a.put op.dst undef) w') : wpList P ops Q (op :: rest) a w :=
  wpList_store_mid hgd ty x y ho g o ys.toArray hx hy (hb.there (by simpa using hl)) (by simpa using hi) (all_oneCell_toArray h1)
    (h _ (hb.setCells o ys) ((Kept.refl _ _).setCells (by simp) o _))
end Go.Proofs.YtgdofgckjkmhjaaGreat
