/- The timer's small functions: comparing, Len, Now, New. -/
import Derived.Test.YteobkcmfpmolmaaTmP
import Derived.Test.YteobkcmfpmolmaaOpen
import Derived.Sort.Grow
import Derived.BigQuiet
import Derived.Deep.RegionHeld3
import Derived.Deep.QuietTactic
import Derived.Deep.RegionLaw
namespace Go.Proofs.Yteobkcmfpmolmaa
open Go Go.RowKit
set_option maxHeartbeats 1000000 in
theorem nan64_any (x : Int) (w : World) : Calls Try.prog 64 #[.int .i64 x] w fun e w' => e = .returned (.bool false) ∧ w = w' := by
  go_enter Try.func64, Try.ntmps64
  go_wp2
  go_ret
  exact ⟨ret_bool (by simp), rfl⟩
set_option maxHeartbeats 1000000 in
theorem nanI_any (x : Int) (w : World) : Calls Try.prog 65 #[.int .i64 x] w fun e w' => e = .returned (.bool false) ∧ w = w' := by
  go_enter Try.func65, Try.ntmps65
  go_wp2
  go_ret
  exact ⟨ret_bool (by simp), rfl⟩
set_option maxHeartbeats 1000000 in
theorem cmp64_any (x y : Int) (w : World) : Calls Try.prog 50 #[.int .i64 x, .int .i64 y] w fun e w' => e = .returned (.int .i64 (cmpI x y)) ∧ w' = w := by
  go_enter Try.func50, Try.ntmps50
  go_wp2_with (go_at_call 64; refine (nan64_any _ _).mono ?_; rintro e w' ⟨rfl, rfl⟩)
  all_goals (go_ret; refine ⟨?_, rfl⟩; unfold cmpI; (repeat' split) <;> first | rfl | (exfalso; omega))
set_option maxHeartbeats 1000000 in
theorem cmpI_any (x y : Int) (w : World) : Calls Try.prog 51 #[.int .i64 x, .int .i64 y] w fun e w' => e = .returned (.int .i64 (cmpI x y)) ∧ w' = w := by
  go_enter Try.func51, Try.ntmps51
  go_wp2_with (go_at_call 65; refine (nanI_any _ _).mono ?_; rintro e w' ⟨rfl, rfl⟩)
  all_goals (go_ret; refine ⟨?_, rfl⟩; unfold cmpI; (repeat' split) <;> first | rfl | (exfalso; omega))
set_option maxHeartbeats 1000000 in
/-- The first of two that isn't 0. -/
theorem or_any (b : Nat) (T : TypeId) (x y : Int) (w : World) (hb : Blk w b [.int .i64 x, .int .i64 y] T) : Calls Try.prog 49 #[.slice (some ⟨b, 0, none⟩) 2 2] w fun e w' => e = .returned (.int .i64 (if x != 0 then x else y)) ∧ w' = w := by
  have c0 := hb.cell (i := 0) rfl
  have c1 := hb.cell (i := 1) rfl
  by_cases hx : x = 0
  · subst hx
    rw [if_neg (by simp)]
    clear hb
    go_enter Try.func49, Try.ntmps49
    go_wp2
    go_loop [8] (fun iv => ∃ i : Nat, i ≤ 2 ∧ iv = .int .i64 i ∧ (2 ≤ i → y = 0)) (fun iv => 2 - (intOf iv).toNat)
    case atStart => exact ⟨0, by omega, rfl, by omega⟩
    case round =>
      obtain ⟨i, hi, rfl, hy⟩ := hrel
      match i, hi with
      | 0, _ =>
        clear hy
        go_wp2
        go_round
        case rel => exact ⟨1, by omega, rfl, by omega⟩
        case measure => simp [intOf]
      | 1, _ =>
        clear hy
        by_cases hy : y = 0
        · subst hy
          go_wp2
          go_round
          case rel => exact ⟨2, by omega, rfl, fun _ => trivial⟩
          case measure => simp [intOf]
        · have hy' : (y != 0) = true := by simp [hy]
          clear hy
          go_wp2
          go_ret
          exact ⟨rfl, rfl⟩
      | 2, _ =>
        obtain rfl := hy (by omega)
        clear hy
        go_wp2
        go_ret
        exact ⟨rfl, rfl⟩
  · have hx' : (x != 0) = true := by simp [hx]
    rw [if_pos hx']
    clear hb hx
    go_enter Try.func49, Try.ntmps49
    go_wp2
    go_loop [8] (fun iv => iv = .int .i64 0) (fun _ => 0)
    case atStart => rfl
    case round =>
      obtain rfl := hrel
      go_wp2
      go_ret
      exact ⟨rfl, rfl⟩
def enc3 (x : En) : List Value := [.int .u32 x.key, .int .i64 x.due, .int .i64 x.no]
set_option maxHeartbeats 2000000 in
theorem order_any (x y : En) (w : World) : Calls Try.prog 40 #[.agg #[.int .u32 x.key, .int .i64 x.due, .int .i64 x.no], .agg #[.int .u32 y.key, .int .i64 y.due, .int .i64 y.no]] w fun e w' => e = .returned (.int .i64 (cfE x y)) ∧ ∃ q os, w' = Go.Sort.grow (w.drewN q) os := by
  have HC := hx (fun w => cmp64_any x.due y.due w)
  have HD := hx (fun w => cmpI_any x.no y.no w)
  have HO := hx (fun (W : World) => show Calls Try.prog 49 #[.slice (some ⟨W.heap.size, 0, none⟩) 2 2] (W.alloc (.cells #[.int .i64 (cmpI x.due y.due), .int .i64 (cmpI x.no y.no)] 3)).drew fun e w' => e = .returned (.int .i64 (cfE x y)) ∧ w' = _ from or_any W.heap.size 3 (cmpI x.due y.due) (cmpI x.no y.no) _ (Blk.new W [.int .i64 (cmpI x.due y.due), .int .i64 (cmpI x.no y.no)] 3).drew)
  have B0 := (Blk.new w [.int .u32 x.key, .int .i64 x.due, .int .i64 x.no] 78).alloc (.cells #[.int .u32 y.key, .int .i64 y.due, .int .i64 y.no] 78)
  have B1 := Blk.new (w.alloc (.cells #[.int .u32 x.key, .int .i64 x.due, .int .i64 x.no] 78)) [.int .u32 y.key, .int .i64 y.due, .int .i64 y.no] 78
  rw [World.size_alloc] at B1
  have c01 := B0.cell (i := 1) rfl
  have c02 := B0.cell (i := 2) rfl
  have c11 := B1.cell (i := 1) rfl
  have c12 := B1.cell (i := 2) rfl
  have HW : Hx (∃ q os, (w.alloc (.cells #[.int .u32 x.key, .int .i64 x.due, .int .i64 x.no] 78)).alloc (.cells #[.int .u32 y.key, .int .i64 y.due, .int .i64 y.no] 78) = Go.Sort.grow (w.drewN q) os) := ⟨0, _, by rw [Go.Sort.alloc_eq_grow, Go.Sort.alloc_eq_grow, Go.Sort.grow_grow]; rfl⟩
  clear B0 B1
  generalize cfE x y = r at *
  generalize cmpI x.due y.due = p at *
  generalize cmpI x.no y.no = q at *
  go_enter Try.func40, Try.ntmps40
  go_wp2_with fail
  generalize (w.alloc (.cells #[.int .u32 x.key, .int .i64 x.due, .int .i64 x.no] 78)).alloc (.cells #[.int .u32 y.key, .int .i64 y.due, .int .i64 y.no] 78) = W at *
  have HKW := hx (Kept.refl [] W)
  have HS := hx (show ∀ w3 w4 : World, (w3.cell? ⟨w.heap.size, 1, none⟩ = some (.int .i64 x.due) ∧ w3.cell? ⟨w.heap.size, 2, none⟩ = some (.int .i64 x.no) ∧ w3.cell? ⟨w.heap.size + 1, 1, none⟩ = some (.int .i64 y.due) ∧ w3.cell? ⟨w.heap.size + 1, 2, none⟩ = some (.int .i64 y.no) ∧ Hx (∃ q os, w3 = Go.Sort.grow (w.drewN q) os)) → ((∃ o, w4 = w3.alloc o) ∨ w4 = w3.drew) → (w4.cell? ⟨w.heap.size, 1, none⟩ = some (.int .i64 x.due) ∧ w4.cell? ⟨w.heap.size, 2, none⟩ = some (.int .i64 x.no) ∧ w4.cell? ⟨w.heap.size + 1, 1, none⟩ = some (.int .i64 y.due) ∧ w4.cell? ⟨w.heap.size + 1, 2, none⟩ = some (.int .i64 y.no) ∧ Hx (∃ q os, w4 = Go.Sort.grow (w.drewN q) os)) from fun w3 w4 ⟨h1, h2, h3, h4, h5⟩ h => by
    have hk : Kept [] w3 w4 := by
      rcases h with ⟨o, rfl⟩ | rfl
      · exact (Kept.refl _ _).alloc o
      · exact (Kept.refl _ _).drew
    have hc : ∀ {p : Addr} {v : Value}, w3.cell? p = some v → w4.cell? p = some v := fun {p v} h => by rw [hk.cell (block_lt_of_cell h) (by simp)]; exact h
    refine ⟨hc h1, hc h2, hc h3, hc h4, ⟨?_⟩⟩
    obtain ⟨q, os, rfl⟩ := h5.out
    rcases h with ⟨o, rfl⟩ | rfl
    · exact ⟨q, _, by rw [Go.Sort.alloc_eq_grow, Go.Sort.grow_grow]⟩
    · exact ⟨q + 1, os, rfl⟩)
  have hSS : W.cell? ⟨w.heap.size, 1, none⟩ = some (.int .i64 x.due) ∧ W.cell? ⟨w.heap.size, 2, none⟩ = some (.int .i64 x.no) ∧ W.cell? ⟨w.heap.size + 1, 1, none⟩ = some (.int .i64 y.due) ∧ W.cell? ⟨w.heap.size + 1, 2, none⟩ = some (.int .i64 y.no) ∧ Hx (∃ q os, W = Go.Sort.grow (w.drewN q) os) := ⟨c01, c02, c11, c12, HW⟩
  go_region_held3 (fun w3 => w3.cell? ⟨w.heap.size, 1, none⟩ = some (.int .i64 x.due) ∧ w3.cell? ⟨w.heap.size, 2, none⟩ = some (.int .i64 x.no) ∧ w3.cell? ⟨w.heap.size + 1, 1, none⟩ = some (.int .i64 y.due) ∧ w3.cell? ⟨w.heap.size + 1, 2, none⟩ = some (.int .i64 y.no) ∧ Hx (∃ q os, w3 = Go.Sort.grow (w.drewN q) os)) (first | exact hSS | exact HS.out _ _ hSS (.inr rfl) | assumption | exact HS.out _ _ (HS.out _ _ hSS (.inl ⟨_, rfl⟩)) (.inr rfl))
    (first
    | (go_at_call 50; refine (HC.out _).mono ?_; rintro e w' ⟨rfl, rfl⟩)
    | (go_at_call 51; refine (HD.out _).mono ?_; rintro e w' ⟨rfl, rfl⟩)
    | (go_at_call 49; refine (HO.out _).mono ?_; rintro e w' ⟨rfl, rfl⟩))
  all_goals
    go_wp2_with fail
    go_ret
    exact ⟨rfl, (HS.out _ _ (HS.out _ _ hSS (.inl ⟨_, rfl⟩)) (.inr rfl)).2.2.2.2.out⟩
end Go.Proofs.Yteobkcmfpmolmaa
