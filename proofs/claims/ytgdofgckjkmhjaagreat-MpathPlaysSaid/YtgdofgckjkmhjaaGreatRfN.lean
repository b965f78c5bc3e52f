/- The document's sender: New. -/
import Derived.Test.YtgdofgckjkmhjaaGreatPk13
set_option linter.unusedSimpArgs false
set_option linter.unusedVariables false
namespace Go.Proofs.YtgdofgckjkmhjaaGreat.Mp
open Go Go.RowKit
open Qd (dvl dv0 dvl_one infoDg step_of take_by)
/-- May there be one? -/
def rightB (rate burst : Int) : Bool := decide (1 ≤ rate ∧ rate ≤ 1048576 ∧ 1 ≤ burst ∧ burst ≤ 16777216)
set_option linter.unusedSimpArgs false in
set_option maxHeartbeats 3200000 in
theorem right_m (rate burst : Int) (w : World) :
    Calls Tryz.prog 25 #[.int .i64 rate, .int .i64 burst] w fun e w' => e = .returned (.bool (rightB rate burst)) ∧ w = w' := by
  by_cases h1 : 1 ≤ rate
  · have d1 : decide (1 ≤ rate) = true := decide_eq_true h1
    by_cases h2 : rate ≤ 1048576
    · have d2 : decide (rate ≤ 1048576) = true := decide_eq_true h2
      by_cases h3 : 1 ≤ burst
      · have d3 : decide (1 ≤ burst) = true := decide_eq_true h3
        by_cases h4 : burst ≤ 16777216
        · have d4 : decide (burst ≤ 16777216) = true := decide_eq_true h4
          have e : rightB rate burst = true := decide_eq_true ⟨h1, h2, h3, h4⟩
          rw [e]
          go_enter Tryz.func25, Tryz.ntmps25
          go_wp2
          go_ret
          exact ⟨rfl, rfl⟩
        · have d4 : decide (burst ≤ 16777216) = false := decide_eq_false h4
          have e : rightB rate burst = false := decide_eq_false (by omega)
          rw [e]
          go_enter Tryz.func25, Tryz.ntmps25
          go_wp2
          go_ret
          exact ⟨rfl, rfl⟩
      · have d3 : decide (1 ≤ burst) = false := decide_eq_false h3
        have e : rightB rate burst = false := decide_eq_false (by omega)
        rw [e]
        go_enter Tryz.func25, Tryz.ntmps25
        go_wp2
        go_ret
        exact ⟨rfl, rfl⟩
    · have d2 : decide (rate ≤ 1048576) = false := decide_eq_false h2
      have e : rightB rate burst = false := decide_eq_false (by omega)
      rw [e]
      go_enter Tryz.func25, Tryz.ntmps25
      go_wp2
      go_ret
      exact ⟨rfl, rfl⟩
  · have d1 : decide (1 ≤ rate) = false := decide_eq_false h1
    have e : rightB rate burst = false := decide_eq_false (by omega)
    rw [e]
    go_enter Tryz.func25, Tryz.ntmps25
    go_wp2
    go_ret
    exact ⟨rfl, rfl⟩
/-- New: its cells. -/
def rnT (sess : Nat) (rate burst held room : Int) : List Value := [.int .i64 rate, .int .i64 burst, .int .i64 held, .int .i64 0, .int .i64 0, .slice none 0 0, .int .i64 room, .int .u32 (sess : Int), .int .u32 0, .int .i64 0, .int .i64 0]
def rnC (sess : Nat) (rate burst room : Int) : List Value := rhd ms00 ++ rnT sess rate burst burst room
def rn0 (sess : Nat) (room : Int) : List Value := rhd ms00 ++ rnT sess 0 0 0 room
theorem rnC_len (sess : Nat) (rate burst room : Int) : (rnC sess rate burst room).length = 167 := by simp [rnC, rhd_len, rnT]
theorem rnC_info (sess : Nat) (rate burst room : Int) : (Tryz.prog.info? 40).map (·.size) = some (rnC sess rate burst room).length := by rw [rnC_len]; exact infoRs
theorem rn_one (sess : Nat) (rate burst held room : Int) : ∀ v ∈ rhd ms00 ++ rnT sess rate burst held room, v.oneCell' = true := by
  intro v hv
  simp only [rhd, rnT, List.mem_append, List.mem_cons, List.not_mem_nil, or_false] at hv
  rcases hv with (h | h) | rfl | rfl | rfl | rfl | rfl | rfl | rfl | rfl | rfl | rfl | rfl
  · exact rpc_one _ v h
  · exact rpc_one _ v h
  all_goals rfl
theorem rnC_one (sess : Nat) (rate burst room : Int) : ∀ v ∈ rnC sess rate burst room, v.oneCell' = true := rn_one _ _ _ _ _
theorem rn0_len (sess : Nat) (room : Int) : (rn0 sess room).length = 167 := by simp [rn0, rhd_len, rnT]
theorem builtRn (sess : Nat) (room : Int) : Tryz.prog.built 40 [(3, .int .i64 room), (4, .int .u32 (sess : Int))] = some (rn0 sess room).toArray := by kernel_rfl
theorem builtBk (rate burst : Int) : Tryz.prog.built 37 [(0, .int .i64 rate), (1, .int .i64 burst), (2, .int .i64 burst)] = some (bkc rate burst burst 0 0).toArray := by kernel_rfl
theorem rn_set (sess : Nat) (rate burst room : Int) : setAll (rn0 sess room) 156 (bkc rate burst burst 0 0) = rnC sess rate burst room := by
  have h := setAll_sub (xs := rn0 sess room) (o := 0) (ys := rhd ms00) (bs := bkc 0 0 0 0 0) (bs' := bkc rate burst burst 0 0) (cs := [.slice none 0 0, .int .i64 room, .int .u32 (sess : Int), .int .u32 0, .int .i64 0, .int .i64 0]) (by
    have e : rhd ms00 ++ bkc 0 0 0 0 0 ++ [.slice none 0 0, .int .i64 room, .int .u32 (sess : Int), .int .u32 0, .int .i64 0, .int .i64 0] = rn0 sess room := by simp [rn0, rnT, bkc]
    rw [e]; exact Part.all _) rfl
  rw [rhd_len] at h
  refine Eq.trans h ?_
  rw [setAll_all _ _ (by simp [rn0_len, rhd_len, bkc])]
  simp [rnC, rnT, bkc]
def mayB (rate burst room : Int) : Bool := rightB rate burst && decide (1 ≤ room) && decide (room ≤ 256)
theorem rnC_good (sess rt : Nat) (burst room : Int) : rnC sess (rt : Int) burst room = rsd (ms0 sess rt burst room) none 0 := rfl
set_option linter.unusedSimpArgs false in
set_option maxRecDepth 100000 in
set_option maxHeartbeats 12800000 in
theorem rnew_m (sess : Nat) (rate burst room : Int) (w : World) :
    Calls Tryz.prog 10 #[.int .u32 (sess : Int), .int .i64 rate, .int .i64 burst, .int .i64 room] w fun e w' => e = .returned (.tuple #[.agg (rnC sess rate burst room).toArray, .bool (mayB rate burst room)]) ∧ Kept [] w w' := by
  obtain ⟨Z, hZ, hz⟩ := zeroRS'
  have HZL := hx (show Z.toList.length = 167 by rw [hZ, rsd_len])
  have Z0 := hx (show Blk (w.alloc (.cells Z 40)) w.heap.size (rsd ms00 none 0) 40 from by
    have h := Blk.new' w Z 40
    rw [hZ] at h
    exact h)
  obtain ⟨b1, hb1⟩ : ∃ b1, rightB rate burst = b1 := ⟨_, rfl⟩
  have HRI := hx (fun W => show Calls Tryz.prog 25 #[.int .i64 rate, .int .i64 burst] W (fun e w' => e = .returned (.bool b1) ∧ W = w') from by rw [← hb1]; exact right_m rate burst W)
  have HB1 := hx hb1
  clear hZ hb1
  go_enter Tryz.func10, Tryz.ntmps10
  go_upto_region 1 with fail
  have K0 := hx ((Kept.refl [] w).alloc (.cells Z 40))
  have HZS := hx (show (w.alloc (.cells Z 40)).heap.size = w.heap.size + 1 by simp)
  generalize w.alloc (.cells Z 40) = w1 at *
  go_upto_region 3 with (first
    | (refine wpList_built rfl 40 _ rfl _ [(3, .int .i64 room), (4, .int .u32 (sess : Int))] (by simp only [List.map_toArray, List.map_cons, List.map_nil]; rfl) (builtRn sess room) ?_)
    | (refine wpList_built rfl 37 _ rfl _ [(0, .int .i64 rate), (1, .int .i64 burst), (2, .int .i64 burst)] (by simp only [List.map_toArray, List.map_cons, List.map_nil]; rfl) (builtBk rate burst) ?_)
    | (refine store_blk rfl 40 (.tmp 10) (.tmp 13) rfl w1.heap.size rfl 40 _ (rn0 sess room) rfl (Blk.new' w1 Z 40) (by rw [rn0_len]; exact HZL.out.symm) (by rw [rn0_len]; exact infoRs) (rn_one _ _ _ _ _) ?_; intro w2 hb2 hk2; have B2 := hx hb2; have K2 := hx (((Kept.refl [] w1).alloc _).trans hk2 (ds := []) (fun _ h => h) (fun x h => by simp at h; subst h; exact .inr (Nat.le_refl _))); clear hb2 hk2)
    | (refine store_part rfl 37 (.tmp 18) (.tmp 17) rfl w1.heap.size 156 rfl 40 _ (bkc rate burst burst 0 0) rfl B2.out (by rw [rn0_len]; show 156 + 5 ≤ 167; omega) infoBk (bkc_one _ _ _ _ _) ?_; intro w4 hb4 hk4; rw [rn_set] at hb4; have B4 := hx hb4; have KK := hx hk4; clear hb4 hk4))
  clear hz
  obtain ⟨g10, hg10⟩ : ∃ g, w1.heap.size = g := ⟨_, rfl⟩
  have HG := hx (show g10 = w.heap.size + 1 from by rw [← hg10]; exact HZS.out)
  rw [hg10] at B4 KK
  rw [hg10]
  have Z4 := hx (KK.out.blk (K2.out.blk Z0.out (by simp)) (by have := HG.out; simp; omega))
  have K4 := hx (show Kept [] w w4 from (K0.out.trans0 K2.out).trans KK.out (fun _ h => h) (fun g hg => by simp at hg; have := HG.out; omega))
  clear hg10 B2 K2 KK K0 Z0 HZS
  have HSK := hx (fun (W : World) (hk : Kept [w.heap.size] w4 W) => show (fun w3 => w3.rangeAt g10 0 (rnC sess rate burst room)) W from (hk.blk B4.out (by have := HG.out; simp; omega)).range)
  cases b1 with
  | false =>
    have HE := hx (show mayB rate burst room = false by unfold mayB; rw [HB1.out]; rfl)
    refine wp_region_held_drew (S := (fun w3 => w3.rangeAt g10 0 (rnC sess rate burst room))) (by kernel_rfl) (HSK.out _ (Kept.drew (Kept.refl [w.heap.size] w4))) (fun hHeld => ?_)
    refine take_by 0 19 (v := .agg (rnC sess rate burst room).toArray) rfl rfl (by kernel_rfl) (by kernel_rfl) (by kernel_rfl) (fun _ _ _ h => h) (yieldsIf_load_mid (by rfl) 40 (.tmp 10) rfl g10 (0) rfl (rnC sess rate burst room) _ (fun _ hS => hS) Tryz.underlying40 rfl (rnC_info _ _ _ _)) (by assumption) ?_
    try simp only [List.setIfInBounds_toArray, List.set_cons_zero, List.set_cons_succ]
    refine take_by 1 20 (v := ?_) rfl rfl (by kernel_rfl) (by kernel_rfl) (by kernel_rfl) (fun _ _ _ h => h) (Or.inl ⟨by rfl, ?_⟩) (by assumption) ?_
    rotate_left
    · (intro w hSw; (try dsimp only at hSw); go_simp; try with_reducible rfl)
    try simp only [List.setIfInBounds_toArray, List.set_cons_zero, List.set_cons_succ]
    refine take_by 2 21 (v := ?_) rfl rfl (by kernel_rfl) (by kernel_rfl) (by kernel_rfl) (fun _ _ _ h => h) (Or.inl ⟨by rfl, ?_⟩) (by assumption) ?_
    rotate_left
    · (intro w hSw; (try dsimp only at hSw); go_simp; try with_reducible rfl)
    try simp only [List.setIfInBounds_toArray, List.set_cons_zero, List.set_cons_succ]
    refine wpAnyH_ready (rs := [3]) (by kernel_rfl) (by simp) ?_
    refine AllReadyH.cons rfl (fun K hK => ?_) AllReadyH.nil
    go_simp
    (go_at_call 25; refine (HRI.out _).mono ?_; rintro e w7 ⟨rfl, rfl⟩)
    refine hK.out _ _ (HSK.out _ (Kept.drew (Kept.refl [w.heap.size] w4))) (fun hHeld => ?_)
    clear hK K
    try simp only [Act.put, List.setIfInBounds_toArray, List.set_cons_zero, List.set_cons_succ]
    refine take_by 4 23 (v := ?_) rfl rfl (by kernel_rfl) (by kernel_rfl) (by kernel_rfl) (fun _ _ _ h => h) (Or.inl ⟨by rfl, ?_⟩) (by assumption) ?_
    rotate_left
    · (intro w hSw; (try dsimp only at hSw); go_simp; try with_reducible rfl)
    try simp only [List.setIfInBounds_toArray, List.set_cons_zero, List.set_cons_succ]
    refine take_by 5 24 (v := undef) rfl rfl (by kernel_rfl) (by kernel_rfl) (by kernel_rfl) (fun _ _ _ h => h) (Or.inr ⟨by rfl, rfl⟩) (by assumption) ?_
    try simp only [List.setIfInBounds_toArray, List.set_cons_zero, List.set_cons_succ]
    refine take_by 6 25 (v := undef) rfl rfl (by kernel_rfl) (by kernel_rfl) (by kernel_rfl) (fun _ _ _ h => h) (Or.inr ⟨by rfl, rfl⟩) (by assumption) ?_
    try simp only [List.setIfInBounds_toArray, List.set_cons_zero, List.set_cons_succ]
    refine take_by 7 26 (v := ?_) rfl rfl (by kernel_rfl) (by kernel_rfl) (by kernel_rfl) (fun _ _ _ h => h) (Or.inl ⟨by rfl, ?_⟩) (by assumption) ?_
    rotate_left
    · (intro w hSw; (try dsimp only at hSw); go_simp; try with_reducible rfl)
    try simp only [List.setIfInBounds_toArray, List.set_cons_zero, List.set_cons_succ]
    refine take_by 8 27 (v := ?_) rfl rfl (by kernel_rfl) (by kernel_rfl) (by kernel_rfl) (fun _ _ _ h => h) (Or.inl ⟨by rfl, ?_⟩) (by assumption) ?_
    rotate_left
    · (intro w hSw; (try dsimp only at hSw); go_simp; try with_reducible rfl)
    try simp only [List.setIfInBounds_toArray, List.set_cons_zero, List.set_cons_succ]
    refine take_by 9 28 (v := undef) rfl rfl (by kernel_rfl) (by kernel_rfl) (by kernel_rfl) (fun _ _ _ h => h) (Or.inr ⟨by rfl, rfl⟩) (by assumption) ?_
    try simp only [List.setIfInBounds_toArray, List.set_cons_zero, List.set_cons_succ]
    refine take_by 10 29 (v := undef) rfl rfl (by kernel_rfl) (by kernel_rfl) (by kernel_rfl) (fun _ _ _ h => h) (Or.inr ⟨by rfl, rfl⟩) (by assumption) ?_
    try simp only [List.setIfInBounds_toArray, List.set_cons_zero, List.set_cons_succ]
    refine take_by 11 30 (v := ?_) rfl rfl (by kernel_rfl) (by kernel_rfl) (by kernel_rfl) (fun _ _ _ h => h) (Or.inl ⟨by rfl, ?_⟩) (by assumption) ?_
    rotate_left
    · (intro w hSw; (try dsimp only at hSw); go_simp; try with_reducible rfl)
    try simp only [List.setIfInBounds_toArray, List.set_cons_zero, List.set_cons_succ]
    refine wpAnyH_ready (rs := [12]) (by kernel_rfl) (by simp) ?_
    refine AllReadyH.cons rfl (fun K hK => ?_) AllReadyH.nil
    refine Qd.step_storeB rfl 40 (.tmp 8) (.tmp 19) rfl w.heap.size rfl 40 (rsd ms00 none 0) (rnC sess rate burst room) rfl Z4.out (by rw [rnC_len, rsd_len]) (rnC_info _ _ _ _) (rnC_one _ _ _ _) ?_
    intro w8 hb8 hk8
    have B8 := hx hb8
    have K8 := hx (show Kept [w.heap.size] w4 w8 from (Kept.drew (Kept.refl [w.heap.size] w4)).trans hk8 (fun _ h => h) (fun g hg => .inl hg))
    clear hb8 hk8
    refine hK.out _ _ (HSK.out _ K8.out) (fun _ => ?_)
    clear hK K
    try simp only [Act.put, List.getElem_toArray, List.getElem_cons_succ, List.getElem_cons_zero, List.setIfInBounds_toArray, List.set_cons_zero, List.set_cons_succ]
    refine take_by 13 9 (v := ?_) rfl rfl (by kernel_rfl) (by kernel_rfl) (by kernel_rfl) (fun _ _ _ h => h) (Or.inl ⟨by rfl, ?_⟩) (by assumption) ?_
    rotate_left
    · (intro w hSw; (try dsimp only at hSw); go_simp; try with_reducible rfl)
    try simp only [List.setIfInBounds_toArray, List.set_cons_zero, List.set_cons_succ]
    refine wpAnyH_done (by kernel_rfl) ?_ _
    go_wp2_with fail
    exact bodyPost_ret (Qd.ret_blk2 rfl _ w.heap.size _ _ _ _ rfl rfl B8.out Tryz.underlying40 rfl (rnC_info _ _ _ _)) rfl ⟨by rw [HE.out]; rfl, K4.out.trans K8.out (ds := []) (fun _ h => h) (fun g hg => by simp at hg; subst hg; exact .inr (Nat.le_refl _))⟩
  | true =>
    by_cases h1 : 1 ≤ room
    · have d1 : decide (1 ≤ room) = true := decide_eq_true h1
      by_cases h2 : room ≤ 256
      · have d2 : decide (room ≤ 256) = true := decide_eq_true h2
        have HE := hx (show mayB rate burst room = true by unfold mayB; rw [HB1.out, d1, d2]; rfl)
        refine wp_region_held_drew (S := (fun w3 => w3.rangeAt g10 0 (rnC sess rate burst room))) (by kernel_rfl) (HSK.out _ (Kept.drew (Kept.refl [w.heap.size] w4))) (fun hHeld => ?_)
        refine take_by 0 19 (v := .agg (rnC sess rate burst room).toArray) rfl rfl (by kernel_rfl) (by kernel_rfl) (by kernel_rfl) (fun _ _ _ h => h) (yieldsIf_load_mid (by rfl) 40 (.tmp 10) rfl g10 (0) rfl (rnC sess rate burst room) _ (fun _ hS => hS) Tryz.underlying40 rfl (rnC_info _ _ _ _)) (by assumption) ?_
        try simp only [List.setIfInBounds_toArray, List.set_cons_zero, List.set_cons_succ]
        refine take_by 1 20 (v := ?_) rfl rfl (by kernel_rfl) (by kernel_rfl) (by kernel_rfl) (fun _ _ _ h => h) (Or.inl ⟨by rfl, ?_⟩) (by assumption) ?_
        rotate_left
        · (intro w hSw; (try dsimp only at hSw); go_simp; try with_reducible rfl)
        try simp only [List.setIfInBounds_toArray, List.set_cons_zero, List.set_cons_succ]
        refine take_by 2 21 (v := ?_) rfl rfl (by kernel_rfl) (by kernel_rfl) (by kernel_rfl) (fun _ _ _ h => h) (Or.inl ⟨by rfl, ?_⟩) (by assumption) ?_
        rotate_left
        · (intro w hSw; (try dsimp only at hSw); go_simp; try with_reducible rfl)
        try simp only [List.setIfInBounds_toArray, List.set_cons_zero, List.set_cons_succ]
        refine wpAnyH_ready (rs := [3]) (by kernel_rfl) (by simp) ?_
        refine AllReadyH.cons rfl (fun K hK => ?_) AllReadyH.nil
        go_simp
        (go_at_call 25; refine (HRI.out _).mono ?_; rintro e w7 ⟨rfl, rfl⟩)
        refine hK.out _ _ (HSK.out _ (Kept.drew (Kept.refl [w.heap.size] w4))) (fun hHeld => ?_)
        clear hK K
        try simp only [Act.put, List.setIfInBounds_toArray, List.set_cons_zero, List.set_cons_succ]
        refine take_by 4 23 (v := ?_) rfl rfl (by kernel_rfl) (by kernel_rfl) (by kernel_rfl) (fun _ _ _ h => h) (Or.inl ⟨by rfl, ?_⟩) (by assumption) ?_
        rotate_left
        · (intro w hSw; (try dsimp only at hSw); go_simp; try with_reducible rfl)
        try simp only [List.setIfInBounds_toArray, List.set_cons_zero, List.set_cons_succ]
        refine take_by 5 24 (v := ?_) rfl rfl (by kernel_rfl) (by kernel_rfl) (by kernel_rfl) (fun _ _ _ h => h) (Or.inl ⟨by rfl, ?_⟩) (by assumption) ?_
        rotate_left
        · (intro w hSw; (try dsimp only at hSw); go_simp; try with_reducible rfl)
        try simp only [List.setIfInBounds_toArray, List.set_cons_zero, List.set_cons_succ]
        refine take_by 6 25 (v := ?_) rfl rfl (by kernel_rfl) (by kernel_rfl) (by kernel_rfl) (fun _ _ _ h => h) (Or.inl ⟨by rfl, ?_⟩) (by assumption) ?_
        rotate_left
        · (intro w hSw; (try dsimp only at hSw); go_simp; try with_reducible rfl)
        try simp only [List.setIfInBounds_toArray, List.set_cons_zero, List.set_cons_succ]
        refine take_by 7 26 (v := ?_) rfl rfl (by kernel_rfl) (by kernel_rfl) (by kernel_rfl) (fun _ _ _ h => h) (Or.inl ⟨by rfl, ?_⟩) (by assumption) ?_
        rotate_left
        · (intro w hSw; (try dsimp only at hSw); go_simp; try with_reducible rfl)
        try simp only [List.setIfInBounds_toArray, List.set_cons_zero, List.set_cons_succ]
        refine take_by 8 27 (v := ?_) rfl rfl (by kernel_rfl) (by kernel_rfl) (by kernel_rfl) (fun _ _ _ h => h) (Or.inl ⟨by rfl, ?_⟩) (by assumption) ?_
        rotate_left
        · (intro w hSw; (try dsimp only at hSw); go_simp; try with_reducible rfl)
        try simp only [List.setIfInBounds_toArray, List.set_cons_zero, List.set_cons_succ]
        refine take_by 9 28 (v := ?_) rfl rfl (by kernel_rfl) (by kernel_rfl) (by kernel_rfl) (fun _ _ _ h => h) (Or.inl ⟨by rfl, ?_⟩) (by assumption) ?_
        rotate_left
        · (intro w hSw; (try dsimp only at hSw); go_simp; try with_reducible rfl)
        try simp only [List.setIfInBounds_toArray, List.set_cons_zero, List.set_cons_succ]
        refine take_by 10 29 (v := ?_) rfl rfl (by kernel_rfl) (by kernel_rfl) (by kernel_rfl) (fun _ _ _ h => h) (Or.inl ⟨by rfl, ?_⟩) (by assumption) ?_
        rotate_left
        · (intro w hSw; (try dsimp only at hSw); go_simp; try with_reducible rfl)
        try simp only [List.setIfInBounds_toArray, List.set_cons_zero, List.set_cons_succ]
        refine take_by 11 30 (v := ?_) rfl rfl (by kernel_rfl) (by kernel_rfl) (by kernel_rfl) (fun _ _ _ h => h) (Or.inl ⟨by rfl, ?_⟩) (by assumption) ?_
        rotate_left
        · (intro w hSw; (try dsimp only at hSw); go_simp; try with_reducible rfl)
        try simp only [List.setIfInBounds_toArray, List.set_cons_zero, List.set_cons_succ]
        refine wpAnyH_ready (rs := [12]) (by kernel_rfl) (by simp) ?_
        refine AllReadyH.cons rfl (fun K hK => ?_) AllReadyH.nil
        refine Qd.step_storeB rfl 40 (.tmp 8) (.tmp 19) rfl w.heap.size rfl 40 (rsd ms00 none 0) (rnC sess rate burst room) rfl Z4.out (by rw [rnC_len, rsd_len]) (rnC_info _ _ _ _) (rnC_one _ _ _ _) ?_
        intro w8 hb8 hk8
        have B8 := hx hb8
        have K8 := hx (show Kept [w.heap.size] w4 w8 from (Kept.drew (Kept.refl [w.heap.size] w4)).trans hk8 (fun _ h => h) (fun g hg => .inl hg))
        clear hb8 hk8
        refine hK.out _ _ (HSK.out _ K8.out) (fun _ => ?_)
        clear hK K
        try simp only [Act.put, List.getElem_toArray, List.getElem_cons_succ, List.getElem_cons_zero, List.setIfInBounds_toArray, List.set_cons_zero, List.set_cons_succ]
        refine take_by 13 9 (v := ?_) rfl rfl (by kernel_rfl) (by kernel_rfl) (by kernel_rfl) (fun _ _ _ h => h) (Or.inl ⟨by rfl, ?_⟩) (by assumption) ?_
        rotate_left
        · (intro w hSw; (try dsimp only at hSw); go_simp; try with_reducible rfl)
        try simp only [List.setIfInBounds_toArray, List.set_cons_zero, List.set_cons_succ]
        refine wpAnyH_done (by kernel_rfl) ?_ _
        go_wp2_with fail
        exact bodyPost_ret (Qd.ret_blk2 rfl _ w.heap.size _ _ _ _ rfl rfl B8.out Tryz.underlying40 rfl (rnC_info _ _ _ _)) rfl ⟨by rw [HE.out]; rfl, K4.out.trans K8.out (ds := []) (fun _ h => h) (fun g hg => by simp at hg; subst hg; exact .inr (Nat.le_refl _))⟩
      · have d2 : decide (room ≤ 256) = false := decide_eq_false h2
        have HE := hx (show mayB rate burst room = false by unfold mayB; rw [HB1.out, d1, d2]; rfl)
        refine wp_region_held_drew (S := (fun w3 => w3.rangeAt g10 0 (rnC sess rate burst room))) (by kernel_rfl) (HSK.out _ (Kept.drew (Kept.refl [w.heap.size] w4))) (fun hHeld => ?_)
        refine take_by 0 19 (v := .agg (rnC sess rate burst room).toArray) rfl rfl (by kernel_rfl) (by kernel_rfl) (by kernel_rfl) (fun _ _ _ h => h) (yieldsIf_load_mid (by rfl) 40 (.tmp 10) rfl g10 (0) rfl (rnC sess rate burst room) _ (fun _ hS => hS) Tryz.underlying40 rfl (rnC_info _ _ _ _)) (by assumption) ?_
        try simp only [List.setIfInBounds_toArray, List.set_cons_zero, List.set_cons_succ]
        refine take_by 1 20 (v := ?_) rfl rfl (by kernel_rfl) (by kernel_rfl) (by kernel_rfl) (fun _ _ _ h => h) (Or.inl ⟨by rfl, ?_⟩) (by assumption) ?_
        rotate_left
        · (intro w hSw; (try dsimp only at hSw); go_simp; try with_reducible rfl)
        try simp only [List.setIfInBounds_toArray, List.set_cons_zero, List.set_cons_succ]
        refine take_by 2 21 (v := ?_) rfl rfl (by kernel_rfl) (by kernel_rfl) (by kernel_rfl) (fun _ _ _ h => h) (Or.inl ⟨by rfl, ?_⟩) (by assumption) ?_
        rotate_left
        · (intro w hSw; (try dsimp only at hSw); go_simp; try with_reducible rfl)
        try simp only [List.setIfInBounds_toArray, List.set_cons_zero, List.set_cons_succ]
        refine wpAnyH_ready (rs := [3]) (by kernel_rfl) (by simp) ?_
        refine AllReadyH.cons rfl (fun K hK => ?_) AllReadyH.nil
        go_simp
        (go_at_call 25; refine (HRI.out _).mono ?_; rintro e w7 ⟨rfl, rfl⟩)
        refine hK.out _ _ (HSK.out _ (Kept.drew (Kept.refl [w.heap.size] w4))) (fun hHeld => ?_)
        clear hK K
        try simp only [Act.put, List.setIfInBounds_toArray, List.set_cons_zero, List.set_cons_succ]
        refine take_by 4 23 (v := ?_) rfl rfl (by kernel_rfl) (by kernel_rfl) (by kernel_rfl) (fun _ _ _ h => h) (Or.inl ⟨by rfl, ?_⟩) (by assumption) ?_
        rotate_left
        · (intro w hSw; (try dsimp only at hSw); go_simp; try with_reducible rfl)
        try simp only [List.setIfInBounds_toArray, List.set_cons_zero, List.set_cons_succ]
        refine take_by 5 24 (v := ?_) rfl rfl (by kernel_rfl) (by kernel_rfl) (by kernel_rfl) (fun _ _ _ h => h) (Or.inl ⟨by rfl, ?_⟩) (by assumption) ?_
        rotate_left
        · (intro w hSw; (try dsimp only at hSw); go_simp; try with_reducible rfl)
        try simp only [List.setIfInBounds_toArray, List.set_cons_zero, List.set_cons_succ]
        refine take_by 6 25 (v := ?_) rfl rfl (by kernel_rfl) (by kernel_rfl) (by kernel_rfl) (fun _ _ _ h => h) (Or.inl ⟨by rfl, ?_⟩) (by assumption) ?_
        rotate_left
        · (intro w hSw; (try dsimp only at hSw); go_simp; try with_reducible rfl)
        try simp only [List.setIfInBounds_toArray, List.set_cons_zero, List.set_cons_succ]
        refine take_by 7 26 (v := ?_) rfl rfl (by kernel_rfl) (by kernel_rfl) (by kernel_rfl) (fun _ _ _ h => h) (Or.inl ⟨by rfl, ?_⟩) (by assumption) ?_
        rotate_left
        · (intro w hSw; (try dsimp only at hSw); go_simp; try with_reducible rfl)
        try simp only [List.setIfInBounds_toArray, List.set_cons_zero, List.set_cons_succ]
        refine take_by 8 27 (v := ?_) rfl rfl (by kernel_rfl) (by kernel_rfl) (by kernel_rfl) (fun _ _ _ h => h) (Or.inl ⟨by rfl, ?_⟩) (by assumption) ?_
        rotate_left
        · (intro w hSw; (try dsimp only at hSw); go_simp; try with_reducible rfl)
        try simp only [List.setIfInBounds_toArray, List.set_cons_zero, List.set_cons_succ]
        refine take_by 9 28 (v := ?_) rfl rfl (by kernel_rfl) (by kernel_rfl) (by kernel_rfl) (fun _ _ _ h => h) (Or.inl ⟨by rfl, ?_⟩) (by assumption) ?_
        rotate_left
        · (intro w hSw; (try dsimp only at hSw); go_simp; try with_reducible rfl)
        try simp only [List.setIfInBounds_toArray, List.set_cons_zero, List.set_cons_succ]
        refine take_by 10 29 (v := ?_) rfl rfl (by kernel_rfl) (by kernel_rfl) (by kernel_rfl) (fun _ _ _ h => h) (Or.inl ⟨by rfl, ?_⟩) (by assumption) ?_
        rotate_left
        · (intro w hSw; (try dsimp only at hSw); go_simp; try with_reducible rfl)
        try simp only [List.setIfInBounds_toArray, List.set_cons_zero, List.set_cons_succ]
        refine take_by 11 30 (v := ?_) rfl rfl (by kernel_rfl) (by kernel_rfl) (by kernel_rfl) (fun _ _ _ h => h) (Or.inl ⟨by rfl, ?_⟩) (by assumption) ?_
        rotate_left
        · (intro w hSw; (try dsimp only at hSw); go_simp; try with_reducible rfl)
        try simp only [List.setIfInBounds_toArray, List.set_cons_zero, List.set_cons_succ]
        refine wpAnyH_ready (rs := [12]) (by kernel_rfl) (by simp) ?_
        refine AllReadyH.cons rfl (fun K hK => ?_) AllReadyH.nil
        refine Qd.step_storeB rfl 40 (.tmp 8) (.tmp 19) rfl w.heap.size rfl 40 (rsd ms00 none 0) (rnC sess rate burst room) rfl Z4.out (by rw [rnC_len, rsd_len]) (rnC_info _ _ _ _) (rnC_one _ _ _ _) ?_
        intro w8 hb8 hk8
        have B8 := hx hb8
        have K8 := hx (show Kept [w.heap.size] w4 w8 from (Kept.drew (Kept.refl [w.heap.size] w4)).trans hk8 (fun _ h => h) (fun g hg => .inl hg))
        clear hb8 hk8
        refine hK.out _ _ (HSK.out _ K8.out) (fun _ => ?_)
        clear hK K
        try simp only [Act.put, List.getElem_toArray, List.getElem_cons_succ, List.getElem_cons_zero, List.setIfInBounds_toArray, List.set_cons_zero, List.set_cons_succ]
        refine take_by 13 9 (v := ?_) rfl rfl (by kernel_rfl) (by kernel_rfl) (by kernel_rfl) (fun _ _ _ h => h) (Or.inl ⟨by rfl, ?_⟩) (by assumption) ?_
        rotate_left
        · (intro w hSw; (try dsimp only at hSw); go_simp; try with_reducible rfl)
        try simp only [List.setIfInBounds_toArray, List.set_cons_zero, List.set_cons_succ]
        refine wpAnyH_done (by kernel_rfl) ?_ _
        go_wp2_with fail
        exact bodyPost_ret (Qd.ret_blk2 rfl _ w.heap.size _ _ _ _ rfl rfl B8.out Tryz.underlying40 rfl (rnC_info _ _ _ _)) rfl ⟨by rw [HE.out]; rfl, K4.out.trans K8.out (ds := []) (fun _ h => h) (fun g hg => by simp at hg; subst hg; exact .inr (Nat.le_refl _))⟩
    · have d1 : decide (1 ≤ room) = false := decide_eq_false h1
      have HE := hx (show mayB rate burst room = false by unfold mayB; rw [HB1.out, d1]; rfl)
      refine wp_region_held_drew (S := (fun w3 => w3.rangeAt g10 0 (rnC sess rate burst room))) (by kernel_rfl) (HSK.out _ (Kept.drew (Kept.refl [w.heap.size] w4))) (fun hHeld => ?_)
      refine take_by 0 19 (v := .agg (rnC sess rate burst room).toArray) rfl rfl (by kernel_rfl) (by kernel_rfl) (by kernel_rfl) (fun _ _ _ h => h) (yieldsIf_load_mid (by rfl) 40 (.tmp 10) rfl g10 (0) rfl (rnC sess rate burst room) _ (fun _ hS => hS) Tryz.underlying40 rfl (rnC_info _ _ _ _)) (by assumption) ?_
      try simp only [List.setIfInBounds_toArray, List.set_cons_zero, List.set_cons_succ]
      refine take_by 1 20 (v := ?_) rfl rfl (by kernel_rfl) (by kernel_rfl) (by kernel_rfl) (fun _ _ _ h => h) (Or.inl ⟨by rfl, ?_⟩) (by assumption) ?_
      rotate_left
      · (intro w hSw; (try dsimp only at hSw); go_simp; try with_reducible rfl)
      try simp only [List.setIfInBounds_toArray, List.set_cons_zero, List.set_cons_succ]
      refine take_by 2 21 (v := ?_) rfl rfl (by kernel_rfl) (by kernel_rfl) (by kernel_rfl) (fun _ _ _ h => h) (Or.inl ⟨by rfl, ?_⟩) (by assumption) ?_
      rotate_left
      · (intro w hSw; (try dsimp only at hSw); go_simp; try with_reducible rfl)
      try simp only [List.setIfInBounds_toArray, List.set_cons_zero, List.set_cons_succ]
      refine wpAnyH_ready (rs := [3]) (by kernel_rfl) (by simp) ?_
      refine AllReadyH.cons rfl (fun K hK => ?_) AllReadyH.nil
      go_simp
      (go_at_call 25; refine (HRI.out _).mono ?_; rintro e w7 ⟨rfl, rfl⟩)
      refine hK.out _ _ (HSK.out _ (Kept.drew (Kept.refl [w.heap.size] w4))) (fun hHeld => ?_)
      clear hK K
      try simp only [Act.put, List.setIfInBounds_toArray, List.set_cons_zero, List.set_cons_succ]
      refine take_by 4 23 (v := ?_) rfl rfl (by kernel_rfl) (by kernel_rfl) (by kernel_rfl) (fun _ _ _ h => h) (Or.inl ⟨by rfl, ?_⟩) (by assumption) ?_
      rotate_left
      · (intro w hSw; (try dsimp only at hSw); go_simp; try with_reducible rfl)
      try simp only [List.setIfInBounds_toArray, List.set_cons_zero, List.set_cons_succ]
      refine take_by 5 24 (v := ?_) rfl rfl (by kernel_rfl) (by kernel_rfl) (by kernel_rfl) (fun _ _ _ h => h) (Or.inl ⟨by rfl, ?_⟩) (by assumption) ?_
      rotate_left
      · (intro w hSw; (try dsimp only at hSw); go_simp; try with_reducible rfl)
      try simp only [List.setIfInBounds_toArray, List.set_cons_zero, List.set_cons_succ]
      refine take_by 6 25 (v := ?_) rfl rfl (by kernel_rfl) (by kernel_rfl) (by kernel_rfl) (fun _ _ _ h => h) (Or.inl ⟨by rfl, ?_⟩) (by assumption) ?_
      rotate_left
      · (intro w hSw; (try dsimp only at hSw); go_simp; try with_reducible rfl)
      try simp only [List.setIfInBounds_toArray, List.set_cons_zero, List.set_cons_succ]
      refine take_by 7 26 (v := ?_) rfl rfl (by kernel_rfl) (by kernel_rfl) (by kernel_rfl) (fun _ _ _ h => h) (Or.inl ⟨by rfl, ?_⟩) (by assumption) ?_
      rotate_left
      · (intro w hSw; (try dsimp only at hSw); go_simp; try with_reducible rfl)
      try simp only [List.setIfInBounds_toArray, List.set_cons_zero, List.set_cons_succ]
      refine take_by 8 27 (v := ?_) rfl rfl (by kernel_rfl) (by kernel_rfl) (by kernel_rfl) (fun _ _ _ h => h) (Or.inl ⟨by rfl, ?_⟩) (by assumption) ?_
      rotate_left
      · (intro w hSw; (try dsimp only at hSw); go_simp; try with_reducible rfl)
      try simp only [List.setIfInBounds_toArray, List.set_cons_zero, List.set_cons_succ]
      refine take_by 9 28 (v := undef) rfl rfl (by kernel_rfl) (by kernel_rfl) (by kernel_rfl) (fun _ _ _ h => h) (Or.inr ⟨by rfl, rfl⟩) (by assumption) ?_
      try simp only [List.setIfInBounds_toArray, List.set_cons_zero, List.set_cons_succ]
      refine take_by 10 29 (v := undef) rfl rfl (by kernel_rfl) (by kernel_rfl) (by kernel_rfl) (fun _ _ _ h => h) (Or.inr ⟨by rfl, rfl⟩) (by assumption) ?_
      try simp only [List.setIfInBounds_toArray, List.set_cons_zero, List.set_cons_succ]
      refine take_by 11 30 (v := ?_) rfl rfl (by kernel_rfl) (by kernel_rfl) (by kernel_rfl) (fun _ _ _ h => h) (Or.inl ⟨by rfl, ?_⟩) (by assumption) ?_
      rotate_left
      · (intro w hSw; (try dsimp only at hSw); go_simp; try with_reducible rfl)
      try simp only [List.setIfInBounds_toArray, List.set_cons_zero, List.set_cons_succ]
      refine wpAnyH_ready (rs := [12]) (by kernel_rfl) (by simp) ?_
      refine AllReadyH.cons rfl (fun K hK => ?_) AllReadyH.nil
      refine Qd.step_storeB rfl 40 (.tmp 8) (.tmp 19) rfl w.heap.size rfl 40 (rsd ms00 none 0) (rnC sess rate burst room) rfl Z4.out (by rw [rnC_len, rsd_len]) (rnC_info _ _ _ _) (rnC_one _ _ _ _) ?_
      intro w8 hb8 hk8
      have B8 := hx hb8
      have K8 := hx (show Kept [w.heap.size] w4 w8 from (Kept.drew (Kept.refl [w.heap.size] w4)).trans hk8 (fun _ h => h) (fun g hg => .inl hg))
      clear hb8 hk8
      refine hK.out _ _ (HSK.out _ K8.out) (fun _ => ?_)
      clear hK K
      try simp only [Act.put, List.getElem_toArray, List.getElem_cons_succ, List.getElem_cons_zero, List.setIfInBounds_toArray, List.set_cons_zero, List.set_cons_succ]
      refine take_by 13 9 (v := ?_) rfl rfl (by kernel_rfl) (by kernel_rfl) (by kernel_rfl) (fun _ _ _ h => h) (Or.inl ⟨by rfl, ?_⟩) (by assumption) ?_
      rotate_left
      · (intro w hSw; (try dsimp only at hSw); go_simp; try with_reducible rfl)
      try simp only [List.setIfInBounds_toArray, List.set_cons_zero, List.set_cons_succ]
      refine wpAnyH_done (by kernel_rfl) ?_ _
      go_wp2_with fail
      exact bodyPost_ret (Qd.ret_blk2 rfl _ w.heap.size _ _ _ _ rfl rfl B8.out Tryz.underlying40 rfl (rnC_info _ _ _ _)) rfl ⟨by rw [HE.out]; rfl, K4.out.trans K8.out (ds := []) (fun _ h => h) (fun g hg => by simp at hg; subst hg; exact .inr (Nat.le_refl _))⟩
end Go.Proofs.YtgdofgckjkmhjaaGreat.Mp
