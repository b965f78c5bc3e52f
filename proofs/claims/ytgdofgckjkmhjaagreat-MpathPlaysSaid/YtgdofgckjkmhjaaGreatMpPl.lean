/- MpathPlays: the law's walk. Printed by k/gen_mppl.py. -/
import Derived.Test.YtgdofgckjkmhjaaGreatMpDo
import Derived.Test.YtgdofgckjkmhjaaGreatPk26
import Derived.Test.YtgdofgckjkmhjaaGreatRfN
import Derived.Deep.CutBlock
set_option linter.unusedSimpArgs false
set_option linter.unusedVariables false
namespace Go.Proofs.YtgdofgckjkmhjaaGreat.Mp
open Go Go.RowKit
open Qd (dvl dv0 dvl_one infoDg step_of take_by)
theorem do_any (w wr : World) (s b q : Nat) (v : Value) (m : Ms) (a : Option Addr) (c : Nat) (sd : List Qd.It) (k t B : Int) (y : Oq) (I : PlI w wr s b q v m a c sd k t B) (hk : 0 ≤ k ∧ k < 60) (ht : 0 ≤ t ∧ t ≤ 100000) (hB : B ≤ 1000000000000) (hd : Bts w y.p y.d.data.length y.c y.d.data) (hth : y.thn < 4294967296) :
    Calls Tryz.prog 12 #[.pointer (some ⟨s, 0, none⟩), .agg (rsd (m.wS sd) a c).toArray, .agg (oqc y).toArray] wr (DoP w wr s b q v (k + 1) (t + 301) (B + 157286400)) := by
  obtain ⟨kd, rk, d, p, cc, nn, wy, th⟩ := y
  by_cases h0 : kd = 0
  · subst h0
    exact do_push w wr s b q v m a c sd k t B rk d p cc nn wy th I hk ht hB hd hth
  · by_cases h1 : kd = 1
    · subst h1
      exact do_ticks w wr s b q v m a c sd k t B rk d p cc nn wy th I hk ht hB hd hth
    · by_cases h2 : kd = 2
      · subst h2
        exact do_flush w wr s b q v m a c sd k t B rk d p cc nn wy th I hk ht hB hd hth
      · by_cases h3 : kd = 3
        · subst h3
          exact do_heard w wr s b q v m a c sd k t B rk d p cc nn wy th I hk ht hB hd hth
        · by_cases h4 : kd = 4
          · subst h4
            exact do_trip w wr s b q v m a c sd k t B rk d p cc nn wy th I hk ht hB hd hth
          · by_cases h5 : kd = 5
            · subst h5
              exact do_forget w wr s b q v m a c sd k t B rk d p cc nn wy th I hk ht hB hd hth
            · exact do_none w wr s b q v m a c sd k t B rk d p cc nn wy th kd I hk ht hB hd hth h0 h1 h2 h3 h4 h5
theorem ret_tct {P : Program} {w : World} {fn : Func} {p q r : Tmp} {ty : TypeId} (h : fn.results = #[.tmp q, .cell p ty, .tmp r]) (tmps : Array Value) (g : Nat) (T : TypeId) (xs : List Value) (v u : Value) (d : TypeDesc)
    (hp : tmps.getD p undef = .pointer (some ⟨g, 0, none⟩)) (hq : tmps.getD q undef = v) (hr : tmps.getD r undef = u) (hb : Blk w g xs T)
    (hu : P.underlying ty = some d) (hd : (match d with | .struct _ | .array _ _ => true | _ => false) = true) (hi : (P.info? ty).map (·.size) = some xs.length) :
    (results fn tmps).run P w = .ok (.tuple #[v, .agg xs.toArray, u]) w := by
  have hp' : tmps[p]?.getD undef = .pointer (some ⟨g, 0, none⟩) := by simpa using hp
  have hq' : tmps[q]?.getD undef = v := by simpa using hq
  have hr' : tmps[r]?.getD undef = u := by simpa using hr
  simp [results, h, hp', hq', hr', asAddr, run_loadVar_row w g T ty xs.toArray (0, 0) d hb hu hd (by simpa using hi)]
theorem exec_Rs (w : World) (ev : Operand → Value) (dst : Option Tmp) (x : Operand) (t2 : TypeId) (pos : String) (af : Array Edge) (g : Option (Nat × Bool)) (h : goodPtr w 167 (ev x) = true) :
    (execOp ev { dst := dst, op := .load 40 x, type := t2, pos := pos, after := af, guard := g }).run Tryz.prog w = .ok (.value (.agg (rowAt w (ev x)))) w :=
  exec_row 40 167 _ Tryz.underlying40 rfl infoRs ev _ x rfl h
/-- What played leaves. -/
def PlP (w : World) (e : Ending) (w' : World) : Prop :=
  ∃ (sv : Value) (X : List Value), e = .returned (.tuple #[sv, .agg X.toArray, .bool true]) ∧ X.length = 167 ∧ (∀ u ∈ X, u.oneCell' = true) ∧ Kept [] w w'
theorem infoXs {X : List Value} (h : X.length = 167) : (Tryz.prog.info? 40).map (·.size) = some X.length := by rw [h]; exact infoRs
/-- The two boxes of played. -/
theorem pl_start (z : List Value) (w : World) (Z : Array Value) (hZ : Z.toList = rsd ms00 none 0) {W0 : World}
    (h : (w.alloc (.cells z.toArray 23)).alloc (.cells Z 40) = W0) :
    Blk W0 w.heap.size z 23 ∧ Blk W0 (w.heap.size + 1) (rsd ms00 none 0) 40 ∧ Kept [] w W0 := by
  subst h
  refine ⟨(Blk.new w z 23).alloc _, ?_, ((Kept.refl _ _).alloc _).alloc _⟩
  have h := Blk.new' (w.alloc (.cells z.toArray 23)) Z 40
  rw [hZ, show (w.alloc (.cells z.toArray 23)).heap.size = w.heap.size + 1 by simp] at h
  exact h
set_option maxHeartbeats 1600000 in
theorem bnew_bad (rate burst : Int) (w : World) (h : rightB rate burst = false) :
    Calls Tryz.prog 13 #[.int .i64 rate, .int .i64 burst] w fun e w' => e = .returned (.tuple #[.pointer none, .int .i64 1]) ∧ w = w' := by
  have h0 : rate < 1 ∨ 1048576 < rate ∨ burst < 1 ∨ 16777216 < burst := by
    unfold rightB at h
    have := of_decide_eq_false h
    omega
  clear h
  by_cases h1 : rate < 1
  · have g1 : decide (rate < 1) = true := decide_eq_true h1
    go_enter Tryz.func13, Tryz.ntmps13
    go_wp2
    go_ret2
    exact ⟨rfl, rfl⟩
  · have g1 : decide (rate < 1) = false := decide_eq_false h1
    by_cases h2 : 1048576 < rate
    · have g2 : decide (1048576 < rate) = true := decide_eq_true h2
      go_enter Tryz.func13, Tryz.ntmps13
      go_wp2
      go_ret2
      exact ⟨rfl, rfl⟩
    · have g2 : decide (1048576 < rate) = false := decide_eq_false h2
      by_cases h3 : burst < 1
      · have g3 : decide (burst < 1) = true := decide_eq_true h3
        go_enter Tryz.func13, Tryz.ntmps13
        go_wp2
        go_ret2
        exact ⟨rfl, rfl⟩
      · have g3 : decide (burst < 1) = false := decide_eq_false h3
        have g4 : decide (16777216 < burst) = true := decide_eq_true (by omega)
        go_enter Tryz.func13, Tryz.ntmps13
        go_wp2
        go_ret2
        exact ⟨rfl, rfl⟩
set_option maxHeartbeats 1600000 in
theorem qnew_bad (room : Int) (w : World) (h : room < 1 ∨ 256 < room) :
    Calls Tryz.prog 14 #[.int .i64 room] w fun e w' => e = .returned (.tuple #[.pointer none, .int .i64 1]) ∧ w = w' := by
  by_cases h1 : room < 1
  · have g1 : decide (room < 1) = true := decide_eq_true h1
    go_enter Tryz.func14, Tryz.ntmps14
    go_wp2
    go_ret2
    exact ⟨rfl, rfl⟩
  · have g1 : decide (room < 1) = false := decide_eq_false h1
    have g2 : decide (256 < room) = true := decide_eq_true (by omega)
    go_enter Tryz.func14, Tryz.ntmps14
    go_wp2
    go_ret2
    exact ⟨rfl, rfl⟩
set_option maxHeartbeats 1600000 in
theorem new_bad (sess : Nat) (rate burst room : Int) (w : World) (h : mayB rate burst room = false) :
    Calls Tryz.prog 6 #[.int .u32 (sess : Int), .int .i64 rate, .int .i64 burst, .int .i64 room] w fun e w' => e = .returned (.tuple #[.pointer none, .int .i64 1]) ∧ Kept [] w w' := by
  cases hb : rightB rate burst with
  | false =>
    have HB := hx (bnew_bad rate burst w hb)
    clear h hb
    go_enter Tryz.func6, Tryz.ntmps6
    go_wp2_with (go_at_call 13; refine HB.out.mono ?_; rintro e w1 ⟨rfl, rfl⟩)
    go_ret2
    exact ⟨rfl, Kept.refl _ _⟩
  | true =>
    have hr : room < 1 ∨ 256 < room := by
      unfold mayB at h
      rw [hb] at h
      simp only [Bool.true_and, Bool.and_eq_false_iff, decide_eq_false_iff_not] at h
      omega
    have h1 := of_decide_eq_true (show decide (1 ≤ rate ∧ rate ≤ 1048576 ∧ 1 ≤ burst ∧ burst ≤ 16777216) = true from hb)
    have HB := hx (bnew_any rate burst w ⟨h1.1, h1.2.1⟩ h1.2.2)
    have HQ := hx (fun W => qnew_bad room W hr)
    clear h hb h1 hr
    go_enter Tryz.func6, Tryz.ntmps6
    go_wp2_with (first
      | (go_at_call 13; refine HB.out.mono ?_; rintro e w1 ⟨rfl, hb1, hk1⟩; have K1 := hx hk1; clear hb1 hk1)
      | (go_at_call 14; refine (HQ.out _).mono ?_; rintro e w2 ⟨rfl, rfl⟩))
    go_ret2
    exact ⟨rfl, K1.out⟩
attribute [local go_sem ↓] exec_Rs
attribute [local go_sem] goodPtr_at rowAt_at
set_option linter.unusedSimpArgs false in
set_option maxRecDepth 100000 in
set_option maxHeartbeats 12800000 in
theorem played_bad (rate burst room0 : Int) (a : Option Addr) (n c : Nat) (w : World) (h : mayB rate burst room0 = false) :
    Calls Tryz.prog 5 #[.agg #[.int .i64 rate, .int .i64 burst, .int .i64 room0], .slice a n c] w (PlP w) := by
  obtain ⟨Z, hZ, hz⟩ := zeroRS'
  have HZL := hx (show Z.toList.length = 167 by rw [hZ, rsd_len])
  have HNW := hx (fun W => new_bad 7 rate burst room0 W h)
  have HRN := hx (fun W => show Calls Tryz.prog 10 #[.int .u32 ((7 : Nat) : Int), .int .i64 rate, .int .i64 burst, .int .i64 room0] W (fun e w' => e = .returned (.tuple #[.agg (rnC 7 rate burst room0).toArray, .bool false]) ∧ Kept [] W w') from by
    have g := rnew_m 7 rate burst room0 W
    rw [h] at g
    exact g)
  obtain ⟨X, hX⟩ : ∃ X, rnC 7 rate burst room0 = X := ⟨_, rfl⟩
  have HXL := hx (show X.length = 167 by rw [← hX]; exact rnC_len _ _ _ _)
  have HXO := hx (show ∀ u ∈ X, u.oneCell' = true by rw [← hX]; exact rnC_one _ _ _ _)
  rw [hX] at HRN
  clear h hX
  go_enter Tryz.func5, Tryz.ntmps5
  go_upto_region 1 with fail
  generalize hw0 : World.alloc (World.alloc w _) _ = W0
  obtain ⟨b0, r0, k0⟩ := pl_start [.int .i64 rate, .int .i64 burst, .int .i64 room0] w Z hZ hw0
  have R0 := hx r0
  have K0 := hx k0
  have B0 := hx b0
  have c0 := b0.cell (i := 0) (v := .int .i64 rate) rfl
  have c1 := b0.cell (i := 1) (v := .int .i64 burst) rfl
  have c2 := b0.cell (i := 2) (v := .int .i64 room0) rfl
  obtain ⟨g5, hg5⟩ : ∃ g, w.heap.size + 1 = g := ⟨_, rfl⟩
  have HG5 := hx (show w.heap.size ≤ g5 by omega)
  rw [hg5] at R0
  rw [hg5]
  clear hw0 b0 r0 k0 hZ hg5
  go_upto_region 2 with (go_at_call 6; refine (HNW.out _).mono ?_; rintro e w0 ⟨rfl, hk0⟩; have KW := hx (K0.out.trans0 hk0); have RW := hx (hk0.blk R0.out (by simp)); have BW := hx (hk0.blk B0.out (by simp)); clear hk0)
  clear c0 c1 c2
  have c0 := BW.out.cell (i := 0) (v := .int .i64 rate) rfl
  have c1 := BW.out.cell (i := 1) (v := .int .i64 burst) rfl
  have c2 := BW.out.cell (i := 2) (v := .int .i64 room0) rfl
  go_upto_region 3 with (first
    | (go_at_call 10; refine (HRN.out _).mono ?_; rintro e w1 ⟨rfl, hk1⟩; have K1 := hx (KW.out.trans0 hk1); have R1 := hx (hk1.blk RW.out (by simp)); clear hk1)
    | (refine store_blk rfl 40 (.tmp 9) (.tmp 32) rfl w1.heap.size rfl 40 _ (X) rfl (Blk.new' w1 Z 40) (by rw [HXL.out]; exact HZL.out.symm) (infoXs HXL.out) HXO.out ?_; intro w2 hb2 hk2; have B2 := hx hb2; have KN2 := hx (((Kept.refl [] w1).alloc _).trans hk2 (ds := []) (fun _ h => h) (fun x h => by simp at h; subst h; exact .inr (Nat.le_refl _))); clear hb2 hk2))
  clear c0 c1 c2
  obtain ⟨g9, hg9⟩ : ∃ g, w1.heap.size = g := ⟨_, rfl⟩
  rw [hg9] at B2
  rw [hg9]
  have HG9 := hx (show g9 ≠ g5 from by have h := R1.out.lt; omega)
  have R2 := hx (KN2.out.blk R1.out (by simp))
  have K2 := hx (K1.out.trans0 KN2.out)
  clear hg9
  go_upto_region 4 with fail
  refine wp_region_held_drew (S := (fun w3 => w3.rangeAt g9 0 X)) (by kernel_rfl) ((((Kept.drew (Kept.refl [] _)).blk B2.out (by simp)).range)) (fun hHeld => ?_)
  refine take_by 0 36 (v := .agg (X).toArray) rfl rfl (by kernel_rfl) (by kernel_rfl) (by kernel_rfl) (fun _ _ _ h => h) (yieldsIf_load_mid (by rfl) 40 (.tmp 9) rfl g9 0 rfl (X) _ (fun _ hS => hS) Tryz.underlying40 rfl (infoXs HXL.out)) (by assumption) ?_
  try simp only [List.setIfInBounds_toArray, List.set_cons_zero, List.set_cons_succ]
  refine take_by 1 37 (v := ?_) rfl rfl (by kernel_rfl) (by kernel_rfl) (by kernel_rfl) (fun _ _ _ h => h) (Or.inl ⟨by rfl, ?_⟩) (by assumption) ?_
  rotate_left
  · (intro w hSw; (try dsimp only at hSw); go_simp; try with_reducible rfl)
  try simp only [List.setIfInBounds_toArray, List.set_cons_zero, List.set_cons_succ]
  refine take_by 2 38 (v := ?_) rfl rfl (by kernel_rfl) (by kernel_rfl) (by kernel_rfl) (fun _ _ _ h => h) (Or.inl ⟨by rfl, ?_⟩) (by assumption) ?_
  rotate_left
  · (intro w hSw; (try dsimp only at hSw); go_simp; try with_reducible rfl)
  try simp only [List.setIfInBounds_toArray, List.set_cons_zero, List.set_cons_succ]
  refine take_by 3 39 (v := ?_) rfl rfl (by kernel_rfl) (by kernel_rfl) (by kernel_rfl) (fun _ _ _ h => h) (Or.inl ⟨by rfl, ?_⟩) (by assumption) ?_
  rotate_left
  · (intro w hSw; (try dsimp only at hSw); go_simp; try with_reducible rfl)
  try simp only [List.setIfInBounds_toArray, List.set_cons_zero, List.set_cons_succ]
  refine take_by 4 40 (v := ?_) rfl rfl (by kernel_rfl) (by kernel_rfl) (by kernel_rfl) (fun _ _ _ h => h) (Or.inl ⟨by rfl, ?_⟩) (by assumption) ?_
  rotate_left
  · (intro w hSw; (try dsimp only at hSw); go_simp; try with_reducible rfl)
  try simp only [List.setIfInBounds_toArray, List.set_cons_zero, List.set_cons_succ]
  refine take_by 5 41 (v := ?_) rfl rfl (by kernel_rfl) (by kernel_rfl) (by kernel_rfl) (fun _ _ _ h => h) (Or.inl ⟨by rfl, ?_⟩) (by assumption) ?_
  rotate_left
  · (intro w hSw; (try dsimp only at hSw); go_simp; try with_reducible rfl)
  try simp only [List.setIfInBounds_toArray, List.set_cons_zero, List.set_cons_succ]
  refine take_by 6 42 (v := ?_) rfl rfl (by kernel_rfl) (by kernel_rfl) (by kernel_rfl) (fun _ _ _ h => h) (Or.inl ⟨by rfl, ?_⟩) (by assumption) ?_
  rotate_left
  · (intro w hSw; (try dsimp only at hSw); go_simp; try with_reducible rfl)
  try simp only [List.setIfInBounds_toArray, List.set_cons_zero, List.set_cons_succ]
  refine take_by 7 4 (v := ?_) rfl rfl (by kernel_rfl) (by kernel_rfl) (by kernel_rfl) (fun _ _ _ h => h) (Or.inl ⟨by rfl, ?_⟩) (by assumption) ?_
  rotate_left
  · (intro w hSw; (try dsimp only at hSw); go_simp; try with_reducible rfl)
  try simp only [List.setIfInBounds_toArray, List.set_cons_zero, List.set_cons_succ]
  refine wpAnyH_ready (rs := [8]) (by kernel_rfl) (by simp) ?_
  refine AllReadyH.cons rfl (fun K hK => ?_) AllReadyH.nil
  refine Qd.step_storeB rfl 40 (.tmp 5) (.tmp 36) rfl g5 rfl 40 (rsd ms00 none 0) (X) rfl ((Kept.drew (Kept.refl [] _)).blk R2.out (by simp)) (by rw [rsd_len]; exact HXL.out) (infoXs HXL.out) (HXO.out) ?_
  intro w8 hb8 hk8
  have K8 := hx (show Kept [] w w8 from Kept.behind (K2.out.trans0 (Kept.drew (Kept.refl [] _))) hk8 (by have := HG5.out; omega))
  have B8 := hx hb8
  refine hK.out _ _ ((hk8.blk ((Kept.drew (Kept.refl [] _)).blk B2.out (by simp)) (by have := HG9.out; simp; omega)).range) (fun hHeld => ?_)
  clear hK K
  try simp only [Act.put, List.getElem_toArray, List.getElem_cons_succ, List.getElem_cons_zero, List.setIfInBounds_toArray, List.set_cons_zero, List.set_cons_succ]
  refine take_by 9 6 (v := ?_) rfl rfl (by kernel_rfl) (by kernel_rfl) (by kernel_rfl) (fun _ _ _ h => h) (Or.inl ⟨by rfl, ?_⟩) (by assumption) ?_
  rotate_left
  · (intro w hSw; (try dsimp only at hSw); go_simp; try with_reducible rfl)
  try simp only [List.setIfInBounds_toArray, List.set_cons_zero, List.set_cons_succ]
  refine wpAnyH_done (by kernel_rfl) ?_ _
  go_wp2_with fail
  refine bodyPost_ret (ret_tct rfl _ g5 _ _ _ _ _ rfl rfl rfl B8.out Tryz.underlying40 rfl (infoXs HXL.out)) rfl ?_
  exact ⟨_, X, rfl, HXL.out, HXO.out, K8.out⟩
set_option linter.unusedSimpArgs false in
set_option maxRecDepth 100000 in
set_option maxHeartbeats 25600000 in
theorem played_good (rt : Nat) (burst room0 : Int) (a : Option Addr) (c : Nat) (xs : List Oq) (w : World) (hr : OqR w a xs) (h1 : 1 ≤ rt ∧ rt ≤ 1048576) (h2 : 1 ≤ burst ∧ burst ≤ 16777216) (h3 : 1 ≤ room0 ∧ room0 ≤ 256) :
    Calls Tryz.prog 5 #[.agg #[.int .i64 (rt : Int), .int .i64 burst, .int .i64 room0], .slice a xs.length c] w (PlP w) := by
  obtain ⟨Z, hZ, hz⟩ := zeroRS'
  have HZL := hx (show Z.toList.length = 167 by rw [hZ, rsd_len])
  have HZE := hx hZ
  have HOQ := hx hr
  have HNW := hx (fun W => new_m 7 rt burst room0 W h1 h2 h3)
  have HRN := hx (fun W => show Calls Tryz.prog 10 #[.int .u32 ((7 : Nat) : Int), .int .i64 (rt : Int), .int .i64 burst, .int .i64 room0] W (fun e w' => e = .returned (.tuple #[.agg (rsd (ms0 7 rt burst room0) none 0).toArray, .bool true]) ∧ Kept [] W w') from by
    have g := rnew_m 7 (rt : Int) burst room0 W
    rw [rnC_good, show mayB (rt : Int) burst room0 = true from by
      unfold mayB rightB
      rw [decide_eq_true (show 1 ≤ (rt : Int) ∧ (rt : Int) ≤ 1048576 ∧ 1 ≤ burst ∧ burst ≤ 16777216 from by omega), decide_eq_true h3.1, decide_eq_true h3.2]
      rfl] at g
    exact g)
  have HSZ := hx (And.intro h1 (And.intro h2 h3))
  obtain ⟨n, hn⟩ : ∃ n, xs.length = n := ⟨_, rfl⟩
  rw [hn]
  have HLN := hx hn
  obtain ⟨m0, hm0⟩ : ∃ m0, ms0 7 rt burst room0 = m0 := ⟨_, rfl⟩
  have HM0 := hx hm0
  rw [hm0] at HRN
  clear h1 h2 h3 hr hn hm0
  go_enter Tryz.func5, Tryz.ntmps5
  go_upto_region 1 with fail
  generalize hw0 : World.alloc (World.alloc w _) _ = W0
  obtain ⟨b0, r0, k0⟩ := pl_start [.int .i64 (rt : Int), .int .i64 burst, .int .i64 room0] w Z hZ hw0
  have R0 := hx r0
  have K0 := hx k0
  have B0 := hx b0
  have c0 := b0.cell (i := 0) (v := .int .i64 (rt : Int)) rfl
  have c1 := b0.cell (i := 1) (v := .int .i64 burst) rfl
  have c2 := b0.cell (i := 2) (v := .int .i64 room0) rfl
  obtain ⟨g5, hg5⟩ : ∃ g, w.heap.size + 1 = g := ⟨_, rfl⟩
  have HG5 := hx (show w.heap.size ≤ g5 by omega)
  rw [hg5] at R0
  rw [hg5]
  clear hw0 b0 r0 k0 hZ hg5
  go_upto_region 2 with (go_at_call 6; refine (HNW.out _).mono ?_; rintro e w0 ⟨s, b, q, rfl, hs0, hk0, hs, hb, hq⟩; have KW := hx (K0.out.trans0 hk0); have RW := hx (hk0.blk R0.out (by simp)); have BW := hx (hk0.blk B0.out (by simp)); have S0 := hx hs0; have F0 := hx (And.intro hs (And.intro hb hq)); clear hs0 hk0 hs hb hq)
  clear c0 c1 c2
  have c0 := BW.out.cell (i := 0) (v := .int .i64 (rt : Int)) rfl
  have c1 := BW.out.cell (i := 1) (v := .int .i64 burst) rfl
  have c2 := BW.out.cell (i := 2) (v := .int .i64 room0) rfl
  go_upto_region 3 with (first
    | (go_at_call 10; refine (HRN.out _).mono ?_; rintro e w1 ⟨rfl, hk1⟩; have K1 := hx (KW.out.trans0 hk1); have S1 := hx (S0.out.kept hk1); have R1 := hx (hk1.blk RW.out (by simp)); clear hk1)
    | (refine store_blk rfl 40 (.tmp 9) (.tmp 32) rfl w1.heap.size rfl 40 _ (rsd m0 none 0) rfl (Blk.new' w1 Z 40) (by rw [rsd_len]; exact HZL.out.symm) (infoRs2 _ _ _) (rsd_one _ _ _) ?_; intro w2 hb2 hk2; have B2 := hx hb2; have KN2 := hx (((Kept.refl [] w1).alloc _).trans hk2 (ds := []) (fun _ h => h) (fun x h => by simp at h; subst h; exact .inr (Nat.le_refl _))); clear hb2 hk2))
  clear c0 c1 c2
  obtain ⟨g9, hg9⟩ : ∃ g, w1.heap.size = g := ⟨_, rfl⟩
  rw [hg9] at B2
  rw [hg9]
  have HG9 := hx (show g9 ≠ g5 ∧ w.heap.size ≤ g9 from by have h := R1.out.lt; have h2 := K1.out.size; omega)
  have R2 := hx (KN2.out.blk R1.out (by simp))
  have K2 := hx (K1.out.trans0 KN2.out)
  have P2 := hx (show PlI w w2 s b q (.slice none 0 0) m0 none 0 [] 0 0 16777216 from by
    have hz := HSZ.out
    have f0 := F0.out
    have hws := K0.out.size
    rw [← HM0.out]
    refine ⟨S1.out.kept KN2.out, K2.out, fun g hg => ?_, RL.empty _, trivial, fun y hy => by simp at hy, ms0_ok 7 rt burst room0 hz.1 hz.2.1 hz.2.2 (by omega), ?_⟩
    · simp only [own, Value.ownBlock, List.mem_cons, Option.toList_none, List.not_mem_nil, or_false] at hg
      rcases hg with rfl | rfl | rfl <;> omega
    · show 0 ≤ (0 : Int) ∧ 0 + burst ≤ 16777216
      omega)
  have B2 := hx (show Blk w2 g9 (rsd (m0.wS []) none 0) 40 from by
    have h := B2.out
    rw [← HM0.out] at h ⊢
    exact h)
  have HBN := hx (fun (W : World) (M : Ms) (a2 : Option Addr) (c2 z : Nat) (hb : Blk W z (rsd M a2 c2) 40) => show rowOf W z = (rsd M a2 c2).toArray ∧ hasRow W z 167 = true from ⟨hb.row, by have h := hb.has; rwa [rsd_len] at h⟩)
  have HSM := hx (fun (W : World) (s b q : Nat) (v : Value) (m : Ms) (a2 : Option Addr) (c2 : Nat) (sd : List Qd.It) (k t B : Int) (hp : PlI w W s b q v m a2 c2 sd k t B) => show Calls Tryz.prog 11 #[.pointer (some ⟨s, 0, none⟩), .agg (rsd (m.wS sd) a2 c2).toArray] W (fun e w' => e = .returned (.bool true) ∧ Kept [] W w') from lSame_m s b q v m sd a2 c2 W k t hp.sr hp.ok hp.lk.len.symm)
  rw [show rsd m0 none 0 = rsd (m0.wS []) none 0 from by rw [← HM0.out]; rfl]
  obtain ⟨hrow, hhas⟩ := HBN.out _ _ _ _ _ B2.out
  clear hg9 HNW HRN B0 BW R0 RW S0 S1 K0 KW K1 KN2 R1 F0
  go_upto_region 7 with (go_at_call 11; refine (HSM.out _ _ _ _ _ _ _ _ _ _ _ _ P2.out).mono ?_; rintro e w3 ⟨rfl, hk3⟩; have P3 := hx (P2.out.keep hk3); have B3 := hx (hk3.blk B2.out (by simp)); have R3 := hx (hk3.blk R2.out (by simp)); clear hk3)
  clear hrow hhas B2 R2 P2 K2
  go_wp2_with fail
  go_loopw [11] (fun s11 wr => ∃ (i : Nat) (v : Value) (m : Ms) (a2 : Option Addr) (c2 : Nat) (sd : List Qd.It), s11 = .int .i64 (i : Int) ∧ Hx (i ≤ n ∧ i ≤ 60) ∧ Hx (PlI w wr s b q v m a2 c2 sd i (301 * (i : Int)) (16777216 + 157286400 * (i : Int))) ∧ Hx (Blk wr g9 (rsd (m.wS sd) a2 c2) 40) ∧ Hx (Blk wr g5 (rsd ms00 none 0) 40)) (fun s11 _ => n - (intOf s11).toNat)
  case atStart => exact ⟨0, _, m0, none, 0, [], rfl, hx ⟨by omega, by omega⟩, hx (by simpa using P3.out), B3, R3⟩
  case round =>
    clear P3 B3 R3
    obtain ⟨i, v, m, a2, c2, sd, rfl, HI, HP, HB9, HR5⟩ := hrel
    by_cases hlt : i < n
    · have hil : (i : Int) < (n : Int) := by omega
      have dil : decide ((i : Int) < (n : Int)) = true := decide_eq_true hil
      by_cases hl6 : i < 60
      · have hi6 : (i : Int) < 60 := by omega
        have di6 : decide ((i : Int) < 60) = true := decide_eq_true hi6
        have HLT := hx (And.intro hlt hl6)
        obtain ⟨y, hy⟩ : ∃ y, xs[i]? = some y := ⟨_, List.getElem?_eq_getElem (by have := HLN.out; omega)⟩
        have HYO := hx (HOQ.out.ok y (List.mem_of_getElem? hy))
        obtain ⟨gr, og, rfl, hgl, cr0⟩ := HOQ.out.at_ i y hy
        have HCR := hx (fun (W : World) (hk : Kept [] w W) => hk.range cr0 (by simp))
        have c12 := (HCR.out wr HP.out.kept) 12 (.slice y.p y.d.data.length y.c) rfl
        clear hlt hl6 hy hgl cr0
        by_cases hbig : 1300 < y.d.data.length
        · have hbI : (1300 : Int) < (y.d.data.length : Int) := by omega
          have dbI : decide ((1300 : Int) < (y.d.data.length : Int)) = true := decide_eq_true hbI
          clear hbig
          go_upto_region 11 with fail
          clear c12
          refine wp_region_held_drew (S := (fun w3 => w3.rangeAt g9 0 (rsd (m.wS sd) a2 c2))) (by kernel_rfl) ((((Kept.drew (Kept.refl [] _)).blk HB9.out (by simp)).range)) (fun hHeld => ?_)
          refine take_by 0 74 (v := .agg (rsd (m.wS sd) a2 c2).toArray) rfl rfl (by kernel_rfl) (by kernel_rfl) (by kernel_rfl) (fun _ _ _ h => h) (yieldsIf_load_mid (by rfl) 40 (.tmp 9) rfl g9 0 rfl (rsd (m.wS sd) a2 c2) _ (fun _ hS => hS) Tryz.underlying40 rfl (infoRs2 _ _ _)) (by assumption) ?_
          try simp only [List.setIfInBounds_toArray, List.set_cons_zero, List.set_cons_succ]
          refine take_by 1 4 (v := ?_) rfl rfl (by kernel_rfl) (by kernel_rfl) (by kernel_rfl) (fun _ _ _ h => h) (Or.inl ⟨by rfl, ?_⟩) (by assumption) ?_
          rotate_left
          · (intro w hSw; (try dsimp only at hSw); go_simp; try with_reducible rfl)
          try simp only [List.setIfInBounds_toArray, List.set_cons_zero, List.set_cons_succ]
          refine wpAnyH_ready (rs := [2]) (by kernel_rfl) (by simp) ?_
          refine AllReadyH.cons rfl (fun K hK => ?_) AllReadyH.nil
          refine Qd.step_storeB rfl 40 (.tmp 5) (.tmp 74) rfl g5 rfl 40 (rsd ms00 none 0) (rsd (m.wS sd) a2 c2) rfl ((Kept.drew (Kept.refl [] _)).blk HR5.out (by simp)) (by rw [rsd_len, rsd_len]) (infoRs2 _ _ _) (rsd_one _ _ _) ?_
          intro w8 hb8 hk8
          have K8 := hx (show Kept [] w w8 from Kept.behind (HP.out.kept.trans0 (Kept.drew (Kept.refl [] _))) hk8 (by have := HG5.out; omega))
          have B8 := hx hb8
          refine hK.out _ _ ((hk8.blk ((Kept.drew (Kept.refl [] _)).blk HB9.out (by simp)) (by have := HG9.out.1; simp; omega)).range) (fun hHeld => ?_)
          clear hK K
          try simp only [Act.put, List.getElem_toArray, List.getElem_cons_succ, List.getElem_cons_zero, List.setIfInBounds_toArray, List.set_cons_zero, List.set_cons_succ]
          refine take_by 3 6 (v := ?_) rfl rfl (by kernel_rfl) (by kernel_rfl) (by kernel_rfl) (fun _ _ _ h => h) (Or.inl ⟨by rfl, ?_⟩) (by assumption) ?_
          rotate_left
          · (intro w hSw; (try dsimp only at hSw); go_simp; try with_reducible rfl)
          try simp only [List.setIfInBounds_toArray, List.set_cons_zero, List.set_cons_succ]
          refine wpAnyH_done (by kernel_rfl) ?_ _
          go_wp2_with fail
          refine bodyPost_ret (ret_tct rfl _ g5 _ _ _ _ _ rfl rfl rfl B8.out Tryz.underlying40 rfl (infoRs2 _ _ _)) rfl ?_
          exact ⟨_, rsd (m.wS sd) a2 c2, rfl, rsd_len _ _ _, rsd_one _ _ _, K8.out⟩
        · have hbI : ¬ (1300 : Int) < (y.d.data.length : Int) := by omega
          have dbI : decide ((1300 : Int) < (y.d.data.length : Int)) = false := decide_eq_false hbI
          have HDO := hx (fun (W : World) (hk : Kept [] wr W) => do_any w W s b q v m a2 c2 sd i (301 * (i : Int)) (16777216 + 157286400 * (i : Int)) y (HP.out.keep hk) (by have := HLT.out; omega) (by have := HLT.out; omega) (by have := HLT.out; omega) HYO.out.1 HYO.out.2.2)
          clear hbig
          go_upto_region 12 with fail
          clear c12 dil di6 dbI hbI
          refine wp_region_held_drew (S := (fun w3 => w3.rangeAt g9 0 (rsd (m.wS sd) a2 c2) ∧ w3.rangeAt gr (og + i * 16) (oqc y))) (by kernel_rfl) (⟨((Kept.drew (Kept.refl [] _)).blk HB9.out (by simp)).range, HCR.out _ (HP.out.kept.trans0 (Kept.drew (Kept.refl [] _)))⟩) (fun hHeld => ?_)
          refine take_by 0 76 (v := ?_) rfl rfl (by kernel_rfl) (by kernel_rfl) (by kernel_rfl) (fun _ _ _ h => h) (Or.inl ⟨by rfl, ?_⟩) (by assumption) ?_
          rotate_left
          · (intro w hSw; (try dsimp only at hSw); go_simp; try with_reducible rfl)
          try simp only [List.setIfInBounds_toArray, List.set_cons_zero, List.set_cons_succ]
          refine take_by 1 77 (v := .agg (rsd (m.wS sd) a2 c2).toArray) rfl rfl (by kernel_rfl) (by kernel_rfl) (by kernel_rfl) (fun _ _ _ h => h) (yieldsIf_load_mid (by rfl) 40 (.tmp 9) rfl g9 0 rfl (rsd (m.wS sd) a2 c2) _ (fun _ hS => hS.1) Tryz.underlying40 rfl (infoRs2 _ _ _)) (by assumption) ?_
          try simp only [List.setIfInBounds_toArray, List.set_cons_zero, List.set_cons_succ]
          refine take_by 2 78 (v := ?_) rfl rfl (by kernel_rfl) (by kernel_rfl) (by kernel_rfl) (fun _ _ _ h => h) (Or.inl ⟨by rfl, ?_⟩) (by assumption) ?_
          rotate_left
          · (intro w hSw; (try dsimp only at hSw); go_simp; try with_reducible rfl)
          try simp only [List.setIfInBounds_toArray, List.set_cons_zero, List.set_cons_succ]
          refine take_by 3 79 (v := ?_) rfl rfl (by kernel_rfl) (by kernel_rfl) (by kernel_rfl) (fun _ _ _ h => h) (Or.inl ⟨by rfl, ?_⟩) (by assumption) ?_
          rotate_left
          · (intro w hSw; (try dsimp only at hSw); go_simp; try with_reducible rfl)
          try simp only [List.setIfInBounds_toArray, List.set_cons_zero, List.set_cons_succ]
          refine take_by 4 80 (v := ?_) rfl rfl (by kernel_rfl) (by kernel_rfl) (by kernel_rfl) (fun _ _ _ h => h) (Or.inl ⟨by rfl, ?_⟩) (by assumption) ?_
          rotate_left
          · (intro w hSw; (try dsimp only at hSw); go_simp; try with_reducible rfl)
          try simp only [List.setIfInBounds_toArray, List.set_cons_zero, List.set_cons_succ]
          refine take_by 5 81 (v := .agg (oqc y).toArray) rfl rfl (by kernel_rfl) (by kernel_rfl) (by kernel_rfl) (fun _ _ _ h => h) (yieldsIf_load_mid (by rfl) 58 (.tmp 80) rfl gr (og + i * 16) rfl (oqc y) _ (fun _ hS => hS.2) Tryz.underlying58 rfl infoOq) (by assumption) ?_
          try simp only [List.setIfInBounds_toArray, List.set_cons_zero, List.set_cons_succ]
          refine wpAnyH_ready (rs := [6, 10]) (by kernel_rfl) (by simp) ?_
          refine AllReadyH.cons rfl (fun K hK => ?_) (AllReadyH.cons rfl (fun K hK => ?_) AllReadyH.nil)
          · go_simp
            (go_at_call 12; refine (HDO.out _ (Kept.drew (Kept.refl [] _))).mono ?_; rintro e w2 ⟨v2, m2, a3, c3, sd2, rfl, hp2, hk2⟩; have P2 := hx hp2; have K2 := hx hk2; have B92 := hx (hk2.blk ((Kept.drew (Kept.refl [] _)).blk HB9.out (by simp)) ((HP.out.sr.kept (Kept.drew (Kept.refl [] _))).not_own ((Kept.drew (Kept.refl [] _)).blk HB9.out (by simp)) (by decide) (by decide) (by decide) (by decide))); have R52 := hx (hk2.blk ((Kept.drew (Kept.refl [] _)).blk HR5.out (by simp)) ((HP.out.sr.kept (Kept.drew (Kept.refl [] _))).not_own ((Kept.drew (Kept.refl [] _)).blk HR5.out (by simp)) (by decide) (by decide) (by decide) (by decide))); clear hp2 hk2)
            refine hK.out _ _ (⟨B92.out.range, HCR.out _ P2.out.kept⟩) (fun hHeld => ?_)
            clear hK K
            try simp only [Act.put, List.getElem_toArray, List.getElem_cons_succ, List.getElem_cons_zero, List.setIfInBounds_toArray, List.set_cons_zero, List.set_cons_succ]
            refine take_by 7 75 (v := ?_) rfl rfl (by kernel_rfl) (by kernel_rfl) (by kernel_rfl) (fun _ _ _ h => h) (Or.inl ⟨by rfl, ?_⟩) (by assumption) ?_
            rotate_left
            · (intro w hSw; (try dsimp only at hSw); go_simp; try with_reducible rfl)
            try simp only [List.setIfInBounds_toArray, List.set_cons_zero, List.set_cons_succ]
            refine take_by 8 83 (v := ?_) rfl rfl (by kernel_rfl) (by kernel_rfl) (by kernel_rfl) (fun _ _ _ h => h) (Or.inl ⟨by rfl, ?_⟩) (by assumption) ?_
            rotate_left
            · (intro w hSw; (try dsimp only at hSw); go_simp; try with_reducible rfl)
            try simp only [List.setIfInBounds_toArray, List.set_cons_zero, List.set_cons_succ]
            refine take_by 9 84 (v := ?_) rfl rfl (by kernel_rfl) (by kernel_rfl) (by kernel_rfl) (fun _ _ _ h => h) (Or.inl ⟨by rfl, ?_⟩) (by assumption) ?_
            rotate_left
            · (intro w hSw; (try dsimp only at hSw); go_simp; try with_reducible rfl)
            try simp only [List.setIfInBounds_toArray, List.set_cons_zero, List.set_cons_succ]
            refine wpAnyH_ready (rs := [10]) (by kernel_rfl) (by simp) ?_
            refine AllReadyH.cons rfl (fun K hK => ?_) AllReadyH.nil
            go_simp
            obtain ⟨g12, hg12⟩ : ∃ g, w2.heap.size = g := ⟨_, rfl⟩
            rw [hg12]
            generalize hwA : World.alloc w2 _ = wA
            have KA := hx (show Kept [] w2 wA from by rw [← hwA]; exact ((Kept.refl [] w2).alloc _))
            have BA := hx (show Blk wA g12 (rsd ms00 none 0) 40 from by rw [← hwA, ← hg12, ← HZE.out]; exact Blk.new' w2 Z 40)
            have HGA := hx (show w2.heap.size ≤ g12 from by omega)
            clear hwA hg12
            have PB := hx (P2.out.keep KA.out)
            have B9B := hx (KA.out.blk B92.out (by simp))
            have R5B := hx (KA.out.blk R52.out (by simp))
            have BB := BA
            have HGB := hx (show g12 ≠ g9 ∧ g12 ≠ g5 ∧ w.heap.size ≤ g12 from by have h1 := B92.out.lt; have h2 := R52.out.lt; have h3 := HGA.out; have h4 := P2.out.kept.size; omega)
            refine hK.out _ _ (⟨B9B.out.range, HCR.out _ PB.out.kept⟩) (fun hHeld => ?_)
            clear hK K
            try simp only [Act.put, List.getElem_toArray, List.getElem_cons_succ, List.getElem_cons_zero, List.setIfInBounds_toArray, List.set_cons_zero, List.set_cons_succ]
            refine wpAnyH_ready (rs := [11]) (by kernel_rfl) (by simp) ?_
            refine AllReadyH.cons rfl (fun K hK => ?_) AllReadyH.nil
            refine Qd.step_storeB rfl 40 (.tmp 12) (.tmp 83) rfl g12 rfl 40 (rsd ms00 none 0) (rsd (m2.wS sd2) a3 c3) rfl BB.out (by rw [rsd_len, rsd_len]) (infoRs2 _ _ _) (rsd_one _ _ _) ?_
            intro w4 hb4 hk4
            have B4 := hx hb4
            have P4 := hx (PB.out.box BB.out hk4 (by have := HGB.out; omega))
            have B94 := hx (hk4.blk B9B.out (by have := HGB.out; simp; omega))
            have R54 := hx (hk4.blk R5B.out (by have := HGB.out; simp; omega))
            clear hb4 hk4
            refine hK.out _ _ (⟨B94.out.range, HCR.out _ P4.out.kept⟩) (fun hHeld => ?_)
            clear hK K
            try simp only [Act.put, List.getElem_toArray, List.getElem_cons_succ, List.getElem_cons_zero, List.setIfInBounds_toArray, List.set_cons_zero, List.set_cons_succ]
            refine take_by 12 13 (v := ?_) rfl rfl (by kernel_rfl) (by kernel_rfl) (by kernel_rfl) (fun _ _ _ h => h) (Or.inl ⟨by rfl, ?_⟩) (by assumption) ?_
            rotate_left
            · (intro w hSw; (try dsimp only at hSw); go_simp; try with_reducible rfl)
            try simp only [List.setIfInBounds_toArray, List.set_cons_zero, List.set_cons_succ]
            refine wpAnyH_done (by kernel_rfl) ?_ _
            obtain ⟨hrow, hhas⟩ := HBN.out _ _ _ _ _ B4.out
            go_upto_region 15 with (go_at_call 11; refine (HSM.out _ _ _ _ _ _ _ _ _ _ _ _ P4.out).mono ?_; rintro e w5 ⟨rfl, hk5⟩; have P5 := hx (P4.out.keep hk5); have B5 := hx (hk5.blk B4.out (by simp)); have B95 := hx (hk5.blk B94.out (by simp)); have R55 := hx (hk5.blk R54.out (by simp)); clear hk5)
            clear hrow hhas
            go_wp2_with (first
              | (refine load_blk rfl 40 (.tmp 12) rfl g12 rfl 40 _ _ B5.out Tryz.underlying40 rfl (infoRs2 _ _ _) ?_)
              | (refine store_blk rfl 40 (.tmp 9) (.tmp 94) rfl g9 rfl 40 _ (rsd (m2.wS sd2) a3 c3) rfl B95.out (by rw [rsd_len, rsd_len]) (infoRs2 _ _ _) (rsd_one _ _ _) ?_; intro w6 hb6 hk6; have B6 := hx hb6; have P6 := hx (P5.out.box B95.out hk6 HG9.out.2); have R6 := hx (hk6.blk R55.out (by have := HG9.out.1; simp; omega)); clear hb6 hk6))
            go_roundw
            case rel => exact ⟨i + 1, v2, m2, a3, c3, sd2, by push_cast; rfl, hx (by have := HLT.out; omega), hx (P6.out.mono (by push_cast; omega) (by push_cast; omega) (by push_cast; omega)), B6, R6⟩
            case measure =>
              simp only [intOf]
              have := HLT.out
              omega
          · go_simp
            obtain ⟨g12, hg12⟩ : ∃ g, wr.heap.size = g := ⟨_, rfl⟩
            rw [hg12]
            generalize hwA : World.drew (World.alloc wr _) = wA
            have KA := hx (show Kept [] wr wA from by rw [← hwA]; exact ((Kept.refl [] wr).alloc _).drew)
            have BA := hx (show Blk wA g12 (rsd ms00 none 0) 40 from by rw [← hwA, ← hg12, ← HZE.out]; exact (Kept.drew (Kept.refl [] _)).blk (Blk.new' wr Z 40) (by simp))
            have HGA := hx (show wr.heap.size ≤ g12 from by omega)
            clear hwA hg12
            refine hK.out _ _ (⟨(KA.out.blk HB9.out (by simp)).range, HCR.out _ (HP.out.kept.trans0 KA.out)⟩) (fun hHeld => ?_)
            clear hK K
            try simp only [Act.put, List.getElem_toArray, List.getElem_cons_succ, List.getElem_cons_zero, List.setIfInBounds_toArray, List.set_cons_zero, List.set_cons_succ]
            refine wpAnyH_ready (rs := [6]) (by kernel_rfl) (by simp) ?_
            refine AllReadyH.cons rfl (fun K hK => ?_) AllReadyH.nil
            go_simp
            (go_at_call 12; refine (HDO.out _ KA.out).mono ?_; rintro e w2 ⟨v2, m2, a3, c3, sd2, rfl, hp2, hk2⟩; have P2 := hx hp2; have K2 := hx hk2; have B92 := hx (hk2.blk (KA.out.blk HB9.out (by simp)) ((HP.out.sr.kept KA.out).not_own (KA.out.blk HB9.out (by simp)) (by decide) (by decide) (by decide) (by decide))); have R52 := hx (hk2.blk (KA.out.blk HR5.out (by simp)) ((HP.out.sr.kept KA.out).not_own (KA.out.blk HR5.out (by simp)) (by decide) (by decide) (by decide) (by decide))); clear hp2 hk2)
            have BB := hx (K2.out.blk BA.out ((HP.out.sr.kept KA.out).not_own BA.out (by decide) (by decide) (by decide) (by decide)))
            have PB := P2
            have B9B := B92
            have R5B := R52
            have HGB := hx (show g12 ≠ g9 ∧ g12 ≠ g5 ∧ w.heap.size ≤ g12 from by have h1 := HB9.out.lt; have h2 := HR5.out.lt; have h3 := HGA.out; have h4 := HP.out.kept.size; omega)
            refine hK.out _ _ (⟨B92.out.range, HCR.out _ P2.out.kept⟩) (fun hHeld => ?_)
            clear hK K
            try simp only [Act.put, List.getElem_toArray, List.getElem_cons_succ, List.getElem_cons_zero, List.setIfInBounds_toArray, List.set_cons_zero, List.set_cons_succ]
            refine take_by 7 75 (v := ?_) rfl rfl (by kernel_rfl) (by kernel_rfl) (by kernel_rfl) (fun _ _ _ h => h) (Or.inl ⟨by rfl, ?_⟩) (by assumption) ?_
            rotate_left
            · (intro w hSw; (try dsimp only at hSw); go_simp; try with_reducible rfl)
            try simp only [List.setIfInBounds_toArray, List.set_cons_zero, List.set_cons_succ]
            refine take_by 8 83 (v := ?_) rfl rfl (by kernel_rfl) (by kernel_rfl) (by kernel_rfl) (fun _ _ _ h => h) (Or.inl ⟨by rfl, ?_⟩) (by assumption) ?_
            rotate_left
            · (intro w hSw; (try dsimp only at hSw); go_simp; try with_reducible rfl)
            try simp only [List.setIfInBounds_toArray, List.set_cons_zero, List.set_cons_succ]
            refine take_by 9 84 (v := ?_) rfl rfl (by kernel_rfl) (by kernel_rfl) (by kernel_rfl) (fun _ _ _ h => h) (Or.inl ⟨by rfl, ?_⟩) (by assumption) ?_
            rotate_left
            · (intro w hSw; (try dsimp only at hSw); go_simp; try with_reducible rfl)
            try simp only [List.setIfInBounds_toArray, List.set_cons_zero, List.set_cons_succ]
            refine wpAnyH_ready (rs := [11]) (by kernel_rfl) (by simp) ?_
            refine AllReadyH.cons rfl (fun K hK => ?_) AllReadyH.nil
            refine Qd.step_storeB rfl 40 (.tmp 12) (.tmp 83) rfl g12 rfl 40 (rsd ms00 none 0) (rsd (m2.wS sd2) a3 c3) rfl BB.out (by rw [rsd_len, rsd_len]) (infoRs2 _ _ _) (rsd_one _ _ _) ?_
            intro w4 hb4 hk4
            have B4 := hx hb4
            have P4 := hx (PB.out.box BB.out hk4 (by have := HGB.out; omega))
            have B94 := hx (hk4.blk B9B.out (by have := HGB.out; simp; omega))
            have R54 := hx (hk4.blk R5B.out (by have := HGB.out; simp; omega))
            clear hb4 hk4
            refine hK.out _ _ (⟨B94.out.range, HCR.out _ P4.out.kept⟩) (fun hHeld => ?_)
            clear hK K
            try simp only [Act.put, List.getElem_toArray, List.getElem_cons_succ, List.getElem_cons_zero, List.setIfInBounds_toArray, List.set_cons_zero, List.set_cons_succ]
            refine take_by 12 13 (v := ?_) rfl rfl (by kernel_rfl) (by kernel_rfl) (by kernel_rfl) (fun _ _ _ h => h) (Or.inl ⟨by rfl, ?_⟩) (by assumption) ?_
            rotate_left
            · (intro w hSw; (try dsimp only at hSw); go_simp; try with_reducible rfl)
            try simp only [List.setIfInBounds_toArray, List.set_cons_zero, List.set_cons_succ]
            refine wpAnyH_done (by kernel_rfl) ?_ _
            obtain ⟨hrow, hhas⟩ := HBN.out _ _ _ _ _ B4.out
            go_upto_region 15 with (go_at_call 11; refine (HSM.out _ _ _ _ _ _ _ _ _ _ _ _ P4.out).mono ?_; rintro e w5 ⟨rfl, hk5⟩; have P5 := hx (P4.out.keep hk5); have B5 := hx (hk5.blk B4.out (by simp)); have B95 := hx (hk5.blk B94.out (by simp)); have R55 := hx (hk5.blk R54.out (by simp)); clear hk5)
            clear hrow hhas
            go_wp2_with (first
              | (refine load_blk rfl 40 (.tmp 12) rfl g12 rfl 40 _ _ B5.out Tryz.underlying40 rfl (infoRs2 _ _ _) ?_)
              | (refine store_blk rfl 40 (.tmp 9) (.tmp 94) rfl g9 rfl 40 _ (rsd (m2.wS sd2) a3 c3) rfl B95.out (by rw [rsd_len, rsd_len]) (infoRs2 _ _ _) (rsd_one _ _ _) ?_; intro w6 hb6 hk6; have B6 := hx hb6; have P6 := hx (P5.out.box B95.out hk6 HG9.out.2); have R6 := hx (hk6.blk R55.out (by have := HG9.out.1; simp; omega)); clear hb6 hk6))
            go_roundw
            case rel => exact ⟨i + 1, v2, m2, a3, c3, sd2, by push_cast; rfl, hx (by have := HLT.out; omega), hx (P6.out.mono (by push_cast; omega) (by push_cast; omega) (by push_cast; omega)), B6, R6⟩
            case measure =>
              simp only [intOf]
              have := HLT.out
              omega
      · have hi6 : ¬ (i : Int) < 60 := by omega
        have di6 : decide ((i : Int) < 60) = false := decide_eq_false hi6
        clear hl6 hlt
        go_upto_region 16 with fail
        refine wp_region_held_drew (S := (fun w3 => w3.rangeAt g9 0 (rsd (m.wS sd) a2 c2))) (by kernel_rfl) ((((Kept.drew (Kept.refl [] _)).blk HB9.out (by simp)).range)) (fun hHeld => ?_)
        refine take_by 0 95 (v := ?_) rfl rfl (by kernel_rfl) (by kernel_rfl) (by kernel_rfl) (fun _ _ _ h => h) (Or.inl ⟨by rfl, ?_⟩) (by assumption) ?_
        rotate_left
        · (intro w hSw; (try dsimp only at hSw); go_simp; try with_reducible rfl)
        try simp only [List.setIfInBounds_toArray, List.set_cons_zero, List.set_cons_succ]
        refine take_by 1 96 (v := .agg (rsd (m.wS sd) a2 c2).toArray) rfl rfl (by kernel_rfl) (by kernel_rfl) (by kernel_rfl) (fun _ _ _ h => h) (yieldsIf_load_mid (by rfl) 40 (.tmp 9) rfl g9 0 rfl (rsd (m.wS sd) a2 c2) _ (fun _ hS => hS) Tryz.underlying40 rfl (infoRs2 _ _ _)) (by assumption) ?_
        try simp only [List.setIfInBounds_toArray, List.set_cons_zero, List.set_cons_succ]
        refine take_by 2 4 (v := ?_) rfl rfl (by kernel_rfl) (by kernel_rfl) (by kernel_rfl) (fun _ _ _ h => h) (Or.inl ⟨by rfl, ?_⟩) (by assumption) ?_
        rotate_left
        · (intro w hSw; (try dsimp only at hSw); go_simp; try with_reducible rfl)
        try simp only [List.setIfInBounds_toArray, List.set_cons_zero, List.set_cons_succ]
        refine wpAnyH_ready (rs := [3]) (by kernel_rfl) (by simp) ?_
        refine AllReadyH.cons rfl (fun K hK => ?_) AllReadyH.nil
        refine Qd.step_storeB rfl 40 (.tmp 5) (.tmp 96) rfl g5 rfl 40 (rsd ms00 none 0) (rsd (m.wS sd) a2 c2) rfl ((Kept.drew (Kept.refl [] _)).blk HR5.out (by simp)) (by rw [rsd_len, rsd_len]) (infoRs2 _ _ _) (rsd_one _ _ _) ?_
        intro w8 hb8 hk8
        have K8 := hx (show Kept [] w w8 from Kept.behind (HP.out.kept.trans0 (Kept.drew (Kept.refl [] _))) hk8 (by have := HG5.out; omega))
        have B8 := hx hb8
        refine hK.out _ _ ((hk8.blk ((Kept.drew (Kept.refl [] _)).blk HB9.out (by simp)) (by have := HG9.out.1; simp; omega)).range) (fun hHeld => ?_)
        clear hK K
        try simp only [Act.put, List.getElem_toArray, List.getElem_cons_succ, List.getElem_cons_zero, List.setIfInBounds_toArray, List.set_cons_zero, List.set_cons_succ]
        refine take_by 4 6 (v := ?_) rfl rfl (by kernel_rfl) (by kernel_rfl) (by kernel_rfl) (fun _ _ _ h => h) (Or.inl ⟨by rfl, ?_⟩) (by assumption) ?_
        rotate_left
        · (intro w hSw; (try dsimp only at hSw); go_simp; try with_reducible rfl)
        try simp only [List.setIfInBounds_toArray, List.set_cons_zero, List.set_cons_succ]
        refine wpAnyH_done (by kernel_rfl) ?_ _
        go_wp2_with fail
        refine bodyPost_ret (ret_tct rfl _ g5 _ _ _ _ _ rfl rfl rfl B8.out Tryz.underlying40 rfl (infoRs2 _ _ _)) rfl ?_
        exact ⟨_, rsd (m.wS sd) a2 c2, rfl, rsd_len _ _ _, rsd_one _ _ _, K8.out⟩
    · have hil : ¬ (i : Int) < (n : Int) := by omega
      have dil : decide ((i : Int) < (n : Int)) = false := decide_eq_false hil
      clear hlt
      go_upto_region 16 with fail
      refine wp_region_held_drew (S := (fun w3 => w3.rangeAt g9 0 (rsd (m.wS sd) a2 c2))) (by kernel_rfl) ((((Kept.drew (Kept.refl [] _)).blk HB9.out (by simp)).range)) (fun hHeld => ?_)
      refine take_by 0 95 (v := ?_) rfl rfl (by kernel_rfl) (by kernel_rfl) (by kernel_rfl) (fun _ _ _ h => h) (Or.inl ⟨by rfl, ?_⟩) (by assumption) ?_
      rotate_left
      · (intro w hSw; (try dsimp only at hSw); go_simp; try with_reducible rfl)
      try simp only [List.setIfInBounds_toArray, List.set_cons_zero, List.set_cons_succ]
      refine take_by 1 96 (v := .agg (rsd (m.wS sd) a2 c2).toArray) rfl rfl (by kernel_rfl) (by kernel_rfl) (by kernel_rfl) (fun _ _ _ h => h) (yieldsIf_load_mid (by rfl) 40 (.tmp 9) rfl g9 0 rfl (rsd (m.wS sd) a2 c2) _ (fun _ hS => hS) Tryz.underlying40 rfl (infoRs2 _ _ _)) (by assumption) ?_
      try simp only [List.setIfInBounds_toArray, List.set_cons_zero, List.set_cons_succ]
      refine take_by 2 4 (v := ?_) rfl rfl (by kernel_rfl) (by kernel_rfl) (by kernel_rfl) (fun _ _ _ h => h) (Or.inl ⟨by rfl, ?_⟩) (by assumption) ?_
      rotate_left
      · (intro w hSw; (try dsimp only at hSw); go_simp; try with_reducible rfl)
      try simp only [List.setIfInBounds_toArray, List.set_cons_zero, List.set_cons_succ]
      refine wpAnyH_ready (rs := [3]) (by kernel_rfl) (by simp) ?_
      refine AllReadyH.cons rfl (fun K hK => ?_) AllReadyH.nil
      refine Qd.step_storeB rfl 40 (.tmp 5) (.tmp 96) rfl g5 rfl 40 (rsd ms00 none 0) (rsd (m.wS sd) a2 c2) rfl ((Kept.drew (Kept.refl [] _)).blk HR5.out (by simp)) (by rw [rsd_len, rsd_len]) (infoRs2 _ _ _) (rsd_one _ _ _) ?_
      intro w8 hb8 hk8
      have K8 := hx (show Kept [] w w8 from Kept.behind (HP.out.kept.trans0 (Kept.drew (Kept.refl [] _))) hk8 (by have := HG5.out; omega))
      have B8 := hx hb8
      refine hK.out _ _ ((hk8.blk ((Kept.drew (Kept.refl [] _)).blk HB9.out (by simp)) (by have := HG9.out.1; simp; omega)).range) (fun hHeld => ?_)
      clear hK K
      try simp only [Act.put, List.getElem_toArray, List.getElem_cons_succ, List.getElem_cons_zero, List.setIfInBounds_toArray, List.set_cons_zero, List.set_cons_succ]
      refine take_by 4 6 (v := ?_) rfl rfl (by kernel_rfl) (by kernel_rfl) (by kernel_rfl) (fun _ _ _ h => h) (Or.inl ⟨by rfl, ?_⟩) (by assumption) ?_
      rotate_left
      · (intro w hSw; (try dsimp only at hSw); go_simp; try with_reducible rfl)
      try simp only [List.setIfInBounds_toArray, List.set_cons_zero, List.set_cons_succ]
      refine wpAnyH_done (by kernel_rfl) ?_ _
      go_wp2_with fail
      refine bodyPost_ret (ret_tct rfl _ g5 _ _ _ _ _ rfl rfl rfl B8.out Tryz.underlying40 rfl (infoRs2 _ _ _)) rfl ?_
      exact ⟨_, rsd (m.wS sd) a2 c2, rfl, rsd_len _ _ _, rsd_one _ _ _, K8.out⟩
theorem played_any (rate burst room0 : Int) (a : Option Addr) (c : Nat) (xs : List Oq) (w : World) (hr : OqR w a xs) :
    Calls Tryz.prog 5 #[.agg #[.int .i64 rate, .int .i64 burst, .int .i64 room0], .slice a xs.length c] w (PlP w) := by
  cases h : mayB rate burst room0 with
  | false => exact played_bad rate burst room0 a xs.length c w h
  | true =>
    unfold mayB at h
    simp only [Bool.and_eq_true, decide_eq_true_eq] at h
    have h1 := of_decide_eq_true (show decide (1 ≤ rate ∧ rate ≤ 1048576 ∧ 1 ≤ burst ∧ burst ≤ 16777216) = true from h.1.1)
    obtain ⟨rt, rfl⟩ : ∃ rt : Nat, rate = (rt : Int) := ⟨rate.toNat, by omega⟩
    exact played_good rt burst room0 a c xs w hr (by omega) h1.2.2 ⟨h.1.2, h.2⟩
set_option maxRecDepth 100000 in
set_option maxHeartbeats 12800000 in
theorem plays_law (rate burst room0 : Int) (a : Option Addr) (c : Nat) (xs : List Oq) (w : World) (hr : OqR w a xs) :
    Calls Tryz.prog 3 #[.agg #[.int .i64 rate, .int .i64 burst, .int .i64 room0], .slice a xs.length c] w fun e w' => e = .returned (.bool true) ∧ Kept [] w w' := by
  obtain ⟨Z, hZ, hz⟩ := zeroRS'
  have HZL := hx (show Z.toList.length = 167 by rw [hZ, rsd_len])
  have HA := hx (fun W => awake_m W)
  have HB := hx (Blk.new w [.int .i64 rate, .int .i64 burst, .int .i64 room0] 23)
  have HPL := hx (fun (W : World) (hk : Kept [] w W) => played_any rate burst room0 a c xs W (hr.kept hk))
  clear hZ hr
  go_enter Tryz.func3, Tryz.ntmps3
  go_upto_region 3 with (go_at_call 4; refine (HA.out _).mono ?_; rintro e w1 ⟨rfl, hk1⟩; have K1 := hx (((Kept.refl [] w).alloc _).trans0 hk1); have B1 := hx (hk1.blk HB.out (by simp)); clear hk1)
  go_wp2_with (first
    | (refine load_blk rfl 23 (.tmp 2) rfl w.heap.size rfl 23 _ _ B1.out Tryz.underlying23 rfl (by kernel_rfl) ?_)
    | (go_at_call 5; refine (HPL.out _ K1.out).mono ?_; rintro e w2 ⟨sv, X, rfl, hxl, hxo, hk2⟩; have HXL := hx hxl; have HXO := hx hxo; have K2 := hx (K1.out.trans0 hk2); clear hxl hxo hk2)
    | (refine store_blk rfl 40 (.tmp 6) (.tmp 15) rfl w2.heap.size rfl 40 _ X rfl (Blk.new' w2 Z 40) (by rw [HXL.out]; exact HZL.out.symm) (infoXs HXL.out) HXO.out ?_; intro w3 hb3 hk3; have K3 := hx (K2.out.trans0 (((Kept.refl [] w2).alloc _).trans hk3 (ds := []) (fun _ h => h) (fun x h => by simp at h; subst h; exact .inr (Nat.le_refl _)))); clear hb3 hk3))
  go_ret
  exact ⟨rfl, K3.out⟩
end Go.Proofs.YtgdofgckjkmhjaaGreat.Mp
