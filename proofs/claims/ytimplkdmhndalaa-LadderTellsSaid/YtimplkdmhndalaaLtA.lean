/- The ladder's order of two players. -/
import Derived.Test.YtimplkdmhndalaaLtP
import Derived.Test.YtimplkdmhndalaaOpen
import Derived.Sort.Grow
import Derived.Laws.Cover1
import Derived.BigQuiet
import Derived.Deep.RegionHeld3
import Derived.Deep.QuietTactic
import Derived.Deep.RegionLaw
namespace Go.Proofs.Ytimplkdmhndalaa
open Go Go.RowKit
theorem take_by {P : Program} {md : Region.Mode} {ops : Array Oper} {Q : Exit → Act → World → Prop} {S : World → Prop} (i d : Nat) {oi : Oper} {v : Value} {fuel : Nat} {listed : Array Bool} {a : Act} {w : World} (hi : ops[i]? = some oi) (hd : oi.dst = some d)
    (hs : Region.noSelect ops = true) (hf : Region.free md ops listed i = true) (hr : (Region.ready md ops listed).contains i = true)
    (hQ : ∀ c a w, Q (.panic c) (a.put oi.dst v) w → Q (.panic c) a w) (hy : YieldsIf P ops S oi v a) (hS : S w)
    (h : wpAnyH P md ops Q S fuel (listed.setIfInBounds i true) { tmps := a.tmps.setIfInBounds d v, defers := a.defers } w) : wpAnyH P md ops Q S (fuel + 1) listed a w := by
  refine wpAnyH_take hi hs hf hr hQ hy hS ?_
  rw [hd]
  exact h
set_option maxHeartbeats 1000000 in
theorem nanI_any (x : Int) (w : World) : Calls Try.prog 40 #[.int .i64 x] w fun e w' => e = .returned (.bool false) ∧ w = w' := by
  go_enter Try.func40, Try.ntmps40
  go_wp2
  go_ret
  exact ⟨ret_bool (by simp), rfl⟩
set_option maxHeartbeats 1000000 in
theorem nanS_any (x : List UInt8) (w : World) : Calls Try.prog 41 #[txt x] w fun e w' => e = .returned (.bool false) ∧ w = w' := by
  go_enter Try.func41, Try.ntmps41
  go_wp2
  go_ret
  exact ⟨ret_bool (by simp), rfl⟩
set_option maxHeartbeats 1000000 in
theorem cmpI_any (x y : Int) (w : World) : Calls Try.prog 25 #[.int .i64 x, .int .i64 y] w fun e w' => e = .returned (.int .i64 (cmpI x y)) ∧ w' = w := by
  go_enter Try.func25, Try.ntmps25
  go_wp2_with (go_at_call 40; refine (nanI_any _ _).mono ?_; rintro e w' ⟨rfl, rfl⟩)
  all_goals (go_ret; refine ⟨?_, rfl⟩; unfold cmpI; (repeat' split) <;> first | rfl | (exfalso; omega))
set_option maxHeartbeats 1000000 in
theorem cmpB_any (x y : List UInt8) (w : World) : Calls Try.prog 26 #[txt x, txt y] w fun e w' => e = .returned (.int .i64 (cmpB x y)) ∧ w' = w := by
  go_enter Try.func26, Try.ntmps26
  go_wp2_with (go_at_call 41; refine (nanS_any _ _).mono ?_; rintro e w' ⟨rfl, rfl⟩)
  all_goals (go_ret; refine ⟨?_, rfl⟩; unfold cmpB; first | (rw [if_pos (by assumption)]; rfl) | (rw [if_neg (by simp_all), if_neg (by simp_all)]; rfl) | (rw [if_neg (by simp_all), if_pos (by simp_all)]; rfl))
set_option maxHeartbeats 1000000 in
/-- The first of three that isn't 0. -/
theorem or_any (b : Nat) (T : TypeId) (x y z : Int) (w : World) (hb : Blk w b [.int .i64 x, .int .i64 y, .int .i64 z] T) : Calls Try.prog 24 #[.slice (some ⟨b, 0, none⟩) 3 3] w fun e w' => e = .returned (.int .i64 (if x != 0 then x else if y != 0 then y else z)) ∧ w' = w := by
  have c0 := hb.cell (i := 0) rfl
  have c1 := hb.cell (i := 1) rfl
  have c2 := hb.cell (i := 2) rfl
  clear hb
  have HR := hx (show ∃ r : Int, r = (if x != 0 then x else if y != 0 then y else z) from ⟨_, rfl⟩)
  obtain ⟨r, hr⟩ := HR.out
  rw [← hr]
  have HE := hx hr
  clear hr HR
  go_enter Try.func24, Try.ntmps24
  go_wp2_with fail
  go_loop [8] (fun iv => ∃ i : Nat, i ≤ 3 ∧ iv = .int .i64 i ∧ Hx ((1 ≤ i → x = 0) ∧ (2 ≤ i → y = 0) ∧ (3 ≤ i → z = 0))) (fun iv => 3 - (intOf iv).toNat)
  case atStart => exact ⟨0, by omega, rfl, ⟨by omega, by omega, by omega⟩⟩
  case round =>
    obtain ⟨i, hi, rfl, hy⟩ := hrel
    match i, hi with
    | 0, _ =>
      by_cases h0 : x = 0
      · subst h0
        clear hy
        go_wp2
        go_round
        case rel => exact ⟨1, by omega, rfl, ⟨fun _ => trivial, by omega, by omega⟩⟩
        case measure => simp [intOf]
      · have hb : (x != 0) = true := by simpa using h0
        clear hy h0
        go_wp2
        go_ret
        exact ⟨by rw [HE.out, if_pos hb]; rfl, rfl⟩
    | 1, _ =>
      by_cases h0 : y = 0
      · subst h0
        go_wp2
        go_round
        case rel => exact ⟨2, by omega, rfl, ⟨fun _ => hy.out.1 (by omega), fun _ => trivial, by omega⟩⟩
        case measure => simp [intOf]
      · have hb : (y != 0) = true := by simpa using h0
        clear h0
        go_wp2
        go_ret
        exact ⟨by rw [HE.out, hy.out.1 (by omega), if_neg (by simp), if_pos hb]; rfl, rfl⟩
    | 2, _ =>
      by_cases h0 : z = 0
      · subst h0
        go_wp2
        go_round
        case rel => exact ⟨3, by omega, rfl, ⟨fun _ => hy.out.1 (by omega), fun _ => hy.out.2.1 (by omega), fun _ => trivial⟩⟩
        case measure => simp [intOf]
      · have hb : (z != 0) = true := by simpa using h0
        clear h0
        go_wp2
        go_ret
        exact ⟨by rw [HE.out, hy.out.1 (by omega), hy.out.2.1 (by omega), if_neg (by simp), if_neg (by simp)]; rfl, rfl⟩
    | 3, _ =>
      go_wp2
      go_ret
      exact ⟨by rw [HE.out, hy.out.1 (by omega), hy.out.2.1 (by omega), hy.out.2.2 (by omega)]; rfl, rfl⟩
def enc5 (x : Ply) : List Value := [txt x.nm, .int .i64 x.ma, .int .i64 x.wo, .int .i64 x.dr, .int .i64 x.lo]
set_option maxHeartbeats 4000000 in
theorem order_any (x y : Ply) (w : World) : Calls Try.prog 23 #[.agg #[txt x.nm, .int .i64 x.ma, .int .i64 x.wo, .int .i64 x.dr, .int .i64 x.lo], .agg #[txt y.nm, .int .i64 y.ma, .int .i64 y.wo, .int .i64 y.dr, .int .i64 y.lo]] w fun e w' => e = .returned (.int .i64 (cfP x y)) ∧ ∃ q os, w' = Go.Sort.grow (w.drewN q) os := by
  have HD := hx (fun w => cmpI_any y.ma x.ma w)
  have HD2 := hx (fun w => cmpI_any y.wo x.wo w)
  have HC := hx (fun w => cmpB_any x.nm y.nm w)
  have HO := hx (fun (W : World) => show Calls Try.prog 24 #[.slice (some ⟨W.drew.heap.size, 0, none⟩) 3 3] (W.drew.alloc (.cells #[.int .i64 (cmpI y.ma x.ma), .int .i64 (cmpI y.wo x.wo), .int .i64 (cmpB x.nm y.nm)] 3)) fun e w' => e = .returned (.int .i64 (cfP x y)) ∧ w' = _ from or_any W.drew.heap.size 3 (cmpI y.ma x.ma) (cmpI y.wo x.wo) (cmpB x.nm y.nm) _ (Blk.new W.drew [.int .i64 (cmpI y.ma x.ma), .int .i64 (cmpI y.wo x.wo), .int .i64 (cmpB x.nm y.nm)] 3))
  have B0 := (Blk.new w [txt x.nm, .int .i64 x.ma, .int .i64 x.wo, .int .i64 x.dr, .int .i64 x.lo] 39).alloc (.cells #[txt y.nm, .int .i64 y.ma, .int .i64 y.wo, .int .i64 y.dr, .int .i64 y.lo] 39)
  have B1 := Blk.new (w.alloc (.cells #[txt x.nm, .int .i64 x.ma, .int .i64 x.wo, .int .i64 x.dr, .int .i64 x.lo] 39)) [txt y.nm, .int .i64 y.ma, .int .i64 y.wo, .int .i64 y.dr, .int .i64 y.lo] 39
  rw [World.size_alloc] at B1
  have c00 := B0.cell (i := 0) rfl
  have c01 := B0.cell (i := 1) rfl
  have c02 := B0.cell (i := 2) rfl
  have c10 := B1.cell (i := 0) rfl
  have c11 := B1.cell (i := 1) rfl
  have c12 := B1.cell (i := 2) rfl
  have HW : Hx (∃ q os, (w.alloc (.cells #[txt x.nm, .int .i64 x.ma, .int .i64 x.wo, .int .i64 x.dr, .int .i64 x.lo] 39)).alloc (.cells #[txt y.nm, .int .i64 y.ma, .int .i64 y.wo, .int .i64 y.dr, .int .i64 y.lo] 39) = Go.Sort.grow (w.drewN q) os) := ⟨0, _, by rw [Go.Sort.alloc_eq_grow, Go.Sort.alloc_eq_grow, Go.Sort.grow_grow]; rfl⟩
  clear B0 B1
  generalize cfP x y = r at *
  generalize cmpI y.ma x.ma = p1 at *
  generalize cmpI y.wo x.wo = p2 at *
  generalize cmpB x.nm y.nm = p3 at *
  go_enter Try.func23, Try.ntmps23
  go_wp2_with fail
  generalize (w.alloc (.cells #[txt x.nm, .int .i64 x.ma, .int .i64 x.wo, .int .i64 x.dr, .int .i64 x.lo] 39)).alloc (.cells #[txt y.nm, .int .i64 y.ma, .int .i64 y.wo, .int .i64 y.dr, .int .i64 y.lo] 39) = W at *
  have HS := hx (show ∀ w3 w4 : World, (w3.cell? ⟨w.heap.size, 0, none⟩ = some (txt x.nm) ∧ w3.cell? ⟨w.heap.size, 1, none⟩ = some (.int .i64 x.ma) ∧ w3.cell? ⟨w.heap.size, 2, none⟩ = some (.int .i64 x.wo) ∧ w3.cell? ⟨w.heap.size + 1, 0, none⟩ = some (txt y.nm) ∧ w3.cell? ⟨w.heap.size + 1, 1, none⟩ = some (.int .i64 y.ma) ∧ w3.cell? ⟨w.heap.size + 1, 2, none⟩ = some (.int .i64 y.wo) ∧ Hx (∃ q os, w3 = Go.Sort.grow (w.drewN q) os)) → ((∃ o, w4 = w3.alloc o) ∨ w4 = w3.drew) → (w4.cell? ⟨w.heap.size, 0, none⟩ = some (txt x.nm) ∧ w4.cell? ⟨w.heap.size, 1, none⟩ = some (.int .i64 x.ma) ∧ w4.cell? ⟨w.heap.size, 2, none⟩ = some (.int .i64 x.wo) ∧ w4.cell? ⟨w.heap.size + 1, 0, none⟩ = some (txt y.nm) ∧ w4.cell? ⟨w.heap.size + 1, 1, none⟩ = some (.int .i64 y.ma) ∧ w4.cell? ⟨w.heap.size + 1, 2, none⟩ = some (.int .i64 y.wo) ∧ Hx (∃ q os, w4 = Go.Sort.grow (w.drewN q) os)) from fun w3 w4 ⟨h1, h2, h3, h4, h5, h6, h7⟩ h => by
    have hk : Kept [] w3 w4 := by
      rcases h with ⟨o, rfl⟩ | rfl
      · exact (Kept.refl _ _).alloc o
      · exact (Kept.refl _ _).drew
    have hc : ∀ {p : Addr} {v : Value}, w3.cell? p = some v → w4.cell? p = some v := fun {p v} h => by rw [hk.cell (block_lt_of_cell h) (by simp)]; exact h
    refine ⟨hc h1, hc h2, hc h3, hc h4, hc h5, hc h6, ⟨?_⟩⟩
    obtain ⟨q, os, rfl⟩ := h7.out
    rcases h with ⟨o, rfl⟩ | rfl
    · exact ⟨q, _, by rw [Go.Sort.alloc_eq_grow, Go.Sort.grow_grow]⟩
    · exact ⟨q + 1, os, rfl⟩)
  have hSS : W.cell? ⟨w.heap.size, 0, none⟩ = some (txt x.nm) ∧ W.cell? ⟨w.heap.size, 1, none⟩ = some (.int .i64 x.ma) ∧ W.cell? ⟨w.heap.size, 2, none⟩ = some (.int .i64 x.wo) ∧ W.cell? ⟨w.heap.size + 1, 0, none⟩ = some (txt y.nm) ∧ W.cell? ⟨w.heap.size + 1, 1, none⟩ = some (.int .i64 y.ma) ∧ W.cell? ⟨w.heap.size + 1, 2, none⟩ = some (.int .i64 y.wo) ∧ Hx (∃ q os, W = Go.Sort.grow (w.drewN q) os) := ⟨c00, c01, c02, c10, c11, c12, HW⟩
  refine wp_region_held_drew (S := (fun w3 => w3.cell? ⟨w.heap.size, 0, none⟩ = some (txt x.nm) ∧ w3.cell? ⟨w.heap.size, 1, none⟩ = some (.int .i64 x.ma) ∧ w3.cell? ⟨w.heap.size, 2, none⟩ = some (.int .i64 x.wo) ∧ w3.cell? ⟨w.heap.size + 1, 0, none⟩ = some (txt y.nm) ∧ w3.cell? ⟨w.heap.size + 1, 1, none⟩ = some (.int .i64 y.ma) ∧ w3.cell? ⟨w.heap.size + 1, 2, none⟩ = some (.int .i64 y.wo) ∧ Hx (∃ q os, w3 = Go.Sort.grow (w.drewN q) os))) (by kernel_rfl) ((HS.out _ _ hSS (.inr rfl))) (fun hHeld => ?_)
  refine take_by 0 5 (v := ?_) rfl rfl (by kernel_rfl) (by kernel_rfl) (by kernel_rfl) (fun _ _ _ h => h) (Or.inl ⟨by rfl, ?_⟩) (by assumption) ?_
  rotate_left
  · (intro w hSw; (try dsimp only at hSw); go_simp; try with_reducible rfl)
  try simp only [List.setIfInBounds_toArray, List.set_cons_zero, List.set_cons_succ]
  refine take_by 1 6 (v := ?_) rfl rfl (by kernel_rfl) (by kernel_rfl) (by kernel_rfl) (fun _ _ _ h => h) (Or.inl ⟨by rfl, ?_⟩) (by assumption) ?_
  rotate_left
  · (intro w hSw; (try dsimp only at hSw); go_simp; try with_reducible rfl)
  try simp only [List.setIfInBounds_toArray, List.set_cons_zero, List.set_cons_succ]
  refine take_by 2 7 (v := ?_) rfl rfl (by kernel_rfl) (by kernel_rfl) (by kernel_rfl) (fun _ _ _ h => h) (Or.inl ⟨by rfl, ?_⟩) (by assumption) ?_
  rotate_left
  · (intro w hSw; (try dsimp only at hSw); go_simp; try with_reducible rfl)
  try simp only [List.setIfInBounds_toArray, List.set_cons_zero, List.set_cons_succ]
  refine take_by 3 8 (v := ?_) rfl rfl (by kernel_rfl) (by kernel_rfl) (by kernel_rfl) (fun _ _ _ h => h) (Or.inl ⟨by rfl, ?_⟩) (by assumption) ?_
  rotate_left
  · (intro w hSw; (try dsimp only at hSw); go_simp; try with_reducible rfl)
  try simp only [List.setIfInBounds_toArray, List.set_cons_zero, List.set_cons_succ]
  refine take_by 5 10 (v := ?_) rfl rfl (by kernel_rfl) (by kernel_rfl) (by kernel_rfl) (fun _ _ _ h => h) (Or.inl ⟨by rfl, ?_⟩) (by assumption) ?_
  rotate_left
  · (intro w hSw; (try dsimp only at hSw); go_simp; try with_reducible rfl)
  try simp only [List.setIfInBounds_toArray, List.set_cons_zero, List.set_cons_succ]
  refine take_by 6 11 (v := ?_) rfl rfl (by kernel_rfl) (by kernel_rfl) (by kernel_rfl) (fun _ _ _ h => h) (Or.inl ⟨by rfl, ?_⟩) (by assumption) ?_
  rotate_left
  · (intro w hSw; (try dsimp only at hSw); go_simp; try with_reducible rfl)
  try simp only [List.setIfInBounds_toArray, List.set_cons_zero, List.set_cons_succ]
  refine take_by 7 12 (v := ?_) rfl rfl (by kernel_rfl) (by kernel_rfl) (by kernel_rfl) (fun _ _ _ h => h) (Or.inl ⟨by rfl, ?_⟩) (by assumption) ?_
  rotate_left
  · (intro w hSw; (try dsimp only at hSw); go_simp; try with_reducible rfl)
  try simp only [List.setIfInBounds_toArray, List.set_cons_zero, List.set_cons_succ]
  refine take_by 8 13 (v := ?_) rfl rfl (by kernel_rfl) (by kernel_rfl) (by kernel_rfl) (fun _ _ _ h => h) (Or.inl ⟨by rfl, ?_⟩) (by assumption) ?_
  rotate_left
  · (intro w hSw; (try dsimp only at hSw); go_simp; try with_reducible rfl)
  try simp only [List.setIfInBounds_toArray, List.set_cons_zero, List.set_cons_succ]
  refine take_by 10 15 (v := ?_) rfl rfl (by kernel_rfl) (by kernel_rfl) (by kernel_rfl) (fun _ _ _ h => h) (Or.inl ⟨by rfl, ?_⟩) (by assumption) ?_
  rotate_left
  · (intro w hSw; (try dsimp only at hSw); go_simp; try with_reducible rfl)
  try simp only [List.setIfInBounds_toArray, List.set_cons_zero, List.set_cons_succ]
  refine take_by 11 16 (v := ?_) rfl rfl (by kernel_rfl) (by kernel_rfl) (by kernel_rfl) (fun _ _ _ h => h) (Or.inl ⟨by rfl, ?_⟩) (by assumption) ?_
  rotate_left
  · (intro w hSw; (try dsimp only at hSw); go_simp; try with_reducible rfl)
  try simp only [List.setIfInBounds_toArray, List.set_cons_zero, List.set_cons_succ]
  refine take_by 12 17 (v := ?_) rfl rfl (by kernel_rfl) (by kernel_rfl) (by kernel_rfl) (fun _ _ _ h => h) (Or.inl ⟨by rfl, ?_⟩) (by assumption) ?_
  rotate_left
  · (intro w hSw; (try dsimp only at hSw); go_simp; try with_reducible rfl)
  try simp only [List.setIfInBounds_toArray, List.set_cons_zero, List.set_cons_succ]
  refine take_by 13 18 (v := ?_) rfl rfl (by kernel_rfl) (by kernel_rfl) (by kernel_rfl) (fun _ _ _ h => h) (Or.inl ⟨by rfl, ?_⟩) (by assumption) ?_
  rotate_left
  · (intro w hSw; (try dsimp only at hSw); go_simp; try with_reducible rfl)
  try simp only [List.setIfInBounds_toArray, List.set_cons_zero, List.set_cons_succ]
  refine wpAnyH_ready (rs := [4]) (by kernel_rfl) (by simp) ?_
  refine AllReadyH.cons rfl (fun K hK => ?_) AllReadyH.nil
  go_simp
  (go_at_call 25; refine (HD.out _).mono ?_; rintro e w' ⟨rfl, rfl⟩)
  refine hK.out _ _ ((HS.out _ _ hSS (.inr rfl))) (fun hHeld => ?_)
  clear hK K
  try simp only [Act.put, List.setIfInBounds_toArray, List.set_cons_zero, List.set_cons_succ]
  refine wpAnyH_ready (rs := [9]) (by kernel_rfl) (by simp) ?_
  refine AllReadyH.cons rfl (fun K hK => ?_) AllReadyH.nil
  go_simp
  (go_at_call 25; refine (HD2.out _).mono ?_; rintro e w' ⟨rfl, rfl⟩)
  refine hK.out _ _ ((HS.out _ _ hSS (.inr rfl))) (fun hHeld => ?_)
  clear hK K
  try simp only [Act.put, List.setIfInBounds_toArray, List.set_cons_zero, List.set_cons_succ]
  refine wpAnyH_ready (rs := [14]) (by kernel_rfl) (by simp) ?_
  refine AllReadyH.cons rfl (fun K hK => ?_) AllReadyH.nil
  go_simp
  (go_at_call 26; refine (HC.out _).mono ?_; rintro e w' ⟨rfl, rfl⟩)
  refine hK.out _ _ ((HS.out _ _ hSS (.inr rfl))) (fun hHeld => ?_)
  clear hK K
  try simp only [Act.put, List.setIfInBounds_toArray, List.set_cons_zero, List.set_cons_succ]
  refine wpAnyH_ready (rs := [15]) (by kernel_rfl) (by simp) ?_
  refine AllReadyH.cons rfl (fun K hK => ?_) AllReadyH.nil
  go_simp
  refine hK.out _ _ ((HS.out _ _ (HS.out _ _ hSS (.inr rfl)) (.inl ⟨_, rfl⟩))) (fun hHeld => ?_)
  clear hK K
  try simp only [Act.put, List.setIfInBounds_toArray, List.set_cons_zero, List.set_cons_succ]
  refine wpAnyH_ready (rs := [16]) (by kernel_rfl) (by simp) ?_
  refine AllReadyH.cons rfl (fun K hK => ?_) AllReadyH.nil
  go_simp
  (go_at_call 24; refine (HO.out _).mono ?_; rintro e w' ⟨rfl, rfl⟩)
  refine hK.out _ _ ((HS.out _ _ (HS.out _ _ hSS (.inr rfl)) (.inl ⟨_, rfl⟩))) (fun hHeld => ?_)
  clear hK K
  try simp only [Act.put, List.setIfInBounds_toArray, List.set_cons_zero, List.set_cons_succ]
  refine take_by 17 4 (v := ?_) rfl rfl (by kernel_rfl) (by kernel_rfl) (by kernel_rfl) (fun _ _ _ h => h) (Or.inl ⟨by rfl, ?_⟩) (by assumption) ?_
  rotate_left
  · (intro w hSw; (try dsimp only at hSw); go_simp; try with_reducible rfl)
  try simp only [List.setIfInBounds_toArray, List.set_cons_zero, List.set_cons_succ]
  refine wpAnyH_done (by kernel_rfl) ?_ _
  go_wp2_with fail
  go_ret
  exact ⟨rfl, (HS.out _ _ (HS.out _ _ hSS (.inr rfl)) (.inl ⟨_, rfl⟩)).2.2.2.2.2.2.out⟩
end Go.Proofs.Ytimplkdmhndalaa
