import Derived.Test.YtpedenaaiinakaaProg
import Derived.Test.YtpedenaaiinakaaCrcP
import Derived.Handy
import Derived.LoopTactic
import Derived.Outline
import Derived.Below
import Derived.Lib.Hide
import Derived.Test.YtpedenaaiinakaaMem
import Derived.Deep.RegionWith
import Derived.StillTailTactics
import Derived.BigQuiet
namespace Go.Proofs.Ytpedenaaiinakaa
open Go.RowKit
set_option maxHeartbeats 400000 in
theorem step_any (r b : Nat) (w : World) (hr : r < 4294967296) (hb : b < 256) :
    Calls Try.prog 26 #[.int .u32 r, .int .u8 b] w fun e w' => e = .returned (.int .u32 (stp r b : Nat)) ∧ w = w' := by
  have hx := u32_xor_nat r b hr (by omega)
  go_enter Try.func26, Try.ntmps26
  go_wp2
  go_loop [0, 9] (fun v i => ∃ k : Nat, k ≤ 8 ∧ i = .int .i64 k ∧ v = .int .u32 (ones k (r ^^^ b) : Nat)) (fun _ i => 8 - (intOf i).toNat)
  case atStart => exact ⟨0, by omega, rfl, rfl⟩
  case round =>
    obtain ⟨k, hk, rfl, rfl⟩ := hrel
    clear hx
    have hlt := ones_lt (xor_lt hr (show b < 4294967296 by omega)) k
    by_cases hk8 : k < 8
    · by_cases ho : ones k (r ^^^ b) % 2 = 1
      · have h1 := and1_odd hlt ho
        have h2 := one_odd hlt ho
        go_wp2
        go_round
        case rel => exact ⟨k + 1, by omega, by go_num, rfl⟩
        case measure => simp [intOf]; omega
      · have h1 := and1_even hlt ho
        have h2 := one_even ho
        go_wp2
        go_round
        case rel => exact ⟨k + 1, by omega, by go_num, rfl⟩
        case measure => simp [intOf]; omega
    · obtain rfl : k = 8 := by omega
      go_wp2
      go_ret
      exact ⟨rfl, rfl⟩
end Go.Proofs.Ytpedenaaiinakaa
namespace Go.Proofs.Ytpedenaaiinakaa
open Go.RowKit
def tab0 : Array Value := Array.replicate 256 (.int .u32 0)
theorem zero48 (w : World) : (zeroValue 60).run Try.prog w = .ok (.agg tab0) w := by kernel_rfl
/-- The table behind k rounds. -/
def tabk (k : Nat) : List Value := (List.range 256).map fun i => .int .u32 (if i < k then stp 0 i else 0 : Nat)
theorem tabk_len (k : Nat) : (tabk k).length = 256 := by simp [tabk]
theorem tabk_get (k i : Nat) (hi : i < 256) : (tabk k)[i]? = some (.int .u32 (if i < k then stp 0 i else 0 : Nat)) := by
  simp [tabk, hi]
theorem tabk_0 : tab0.toList = tabk 0 := by
  apply List.ext_getElem?
  intro i
  rw [tab0, Array.toList_replicate, List.getElem?_replicate]
  by_cases hi : i < 256
  · rw [tabk_get 0 i hi, if_pos hi, if_neg (by omega)]; rfl
  · rw [if_neg hi, List.getElem?_eq_none (by rw [tabk_len]; omega)]
theorem tabk_set (k : Nat) (h : k < 256) : (tabk k).set k (.int .u32 (stp 0 k : Nat)) = tabk (k + 1) := by
  apply List.ext_getElem?
  intro i
  rw [List.getElem?_set]
  by_cases hi : i < 256
  · rw [tabk_get (k + 1) i hi, tabk_get k i hi, tabk_len]
    by_cases hk : k = i
    · subst hk; simp [h]
    · rw [if_neg hk]
      by_cases h1 : i < k
      · rw [if_pos h1, if_pos (by omega)]
      · rw [if_neg h1, if_neg (by omega)]
  · rw [if_neg (by omega)]
    simp [tabk, hi]
set_option maxRecDepth 100000 in
set_option maxHeartbeats 400000 in
theorem new_any (w : World) :
    Calls Try.prog 11 #[] w fun e w' => e = .returned (.pointer (some ⟨w.heap.size, 0, none⟩)) ∧ Blk w' w.heap.size (tabk 256) 60 ∧ Kept [] w w' := by
  have hz := zero48
  go_enter Try.func11, Try.ntmps11
  go_wp2
  go_loopw [5] (fun v wr => ∃ k : Nat, k ≤ 256 ∧ v = .int .i64 k ∧ Blk wr w.heap.size (tabk k) 60 ∧ Kept [] w wr) (fun v _ => 256 - (intOf v).toNat)
  case atStart => exact ⟨0, by omega, rfl, by rw [← tabk_0]; exact Blk.new' _ _ _, (Kept.refl _ _).alloc _⟩
  case round =>
    obtain ⟨k, hk, rfl, hb, hkept⟩ := hrel
    clear hz
    by_cases hlt : k < 256
    · have hcell := hb.cell (tabk_get k k hlt)
      have hfree := hb.free k
      have hu8 : IntKind.u8.wrap (k : Int) = k := by rw [IntKind.wrap_u8']; omega
      go_wp2
      go_region_with (go_at_call 26; refine (step_any 0 k _ (by omega) (by omega)).mono ?_; rintro e w' ⟨rfl, rfl⟩)
      go_wp2
      go_roundw
      case rel => exact ⟨k + 1, by omega, by go_num, by rw [← tabk_set k hlt]; exact hb.set k _, (hkept.setCell (p := ⟨_, _, none⟩) (.inr (Nat.le_refl _)) _).drew⟩
      case measure => simp [intOf]; omega
    · obtain rfl : k = 256 := by omega
      go_wp2
      go_ret
      exact ⟨rfl, hb, hkept⟩
end Go.Proofs.Ytpedenaaiinakaa
