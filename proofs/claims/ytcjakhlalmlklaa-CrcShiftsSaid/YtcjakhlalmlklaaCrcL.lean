import Derived.Test.YtcjakhlalmlklaaCrcE
import Derived.Lib.SlBytesConst
namespace Go.Proofs.Ytcjakhlalmlklaa
open Go.RowKit
def digs : List UInt8 := [49, 50, 51, 52, 53, 54, 55, 56, 57]
theorem digs_sum : mor 0 digs = 3421780262 := by decide +kernel
theorem bts9 (w : World) : Bts (w.alloc (.cells #[.int .u8 49, .int .u8 50, .int .u8 51, .int .u8 52, .int .u8 53, .int .u8 54, .int .u8 55, .int .u8 56, .int .u8 57] 5 (9, 10))) (some ⟨w.heap.size, 0, none⟩) 9 9 digs :=
  ⟨rfl, Nat.le_refl _, by unfold maxLen; omega, fun h => by simp at h, fun i hi => ⟨_, _, rfl, by
    unfold World.cell?
    show (match (w.heap.push _)[w.heap.size]? with | some (.cells c _ _) => _ | _ => _) = _
    rw [Array.getElem?_push_size]
    match i, hi with
    | 0, _ | 1, _ | 2, _ | 3, _ | 4, _ | 5, _ | 6, _ | 7, _ | 8, _ => rfl⟩⟩
set_option maxRecDepth 100000 in
set_option maxHeartbeats 800000 in
theorem awake_any (w : World) : Calls Try.prog 9 #[] w fun e w' => e = .returned (.bool true) ∧ Kept [] w w' := by
  have hcv := fun (w : World) (C : Array Value) (n c : Nat) => Lib.run_convert_bytes_const (P := Try.prog) w 23 5 C n c Try.underlying23 Try.underlying5
  have hd := Lib.hid digs_sum
  go_enter Try.func9, Try.ntmps9
  go_wp2_with fail
  refine (new_any _).mono ?_
  rintro e w1 ⟨rfl, hb, hk⟩
  go_wp2_with fail
  refine (sum_any w.heap.size _ 9 9 digs _ (bts9 w1) (hb.alloc _)).mono ?_
  rintro e w2 ⟨rfl, rfl⟩
  rw [hd.out]
  go_wp2
  go_ret
  exact ⟨rfl, hk.alloc _⟩
set_option maxRecDepth 100000 in
set_option maxHeartbeats 800000 in
theorem law_sums (s b : Nat) (a : Option Addr) (n c : Nat) (l : List UInt8) (w : World) (hs : s < 4294967296) (hb : b < 256) (hl : Bts w a n c l) :
    Calls Try.prog 3 #[.int .u32 s, .slice a n c, .int .u8 b] w fun e w' => e = .returned (.bool true) ∧ Kept [] w w' := by
  by_cases hbig : n > 2000
  · have hbi : (2000 : Int) < (n : Int) := by omega
    go_enter Try.func3, Try.ntmps3
    go_wp2_with fail
    refine (awake_any _).mono ?_
    rintro e w1 ⟨rfl, hk⟩
    go_wp2
    go_ret
    exact ⟨rfl, hk⟩
  · have hbi : ¬ (2000 : Int) < (n : Int) := by omega
    go_enter Try.func3, Try.ntmps3
    go_wp2_with fail
    refine (awake_any _).mono ?_
    rintro e w1 ⟨rfl, hk1⟩
    go_wp2_with fail
    refine (new_any _).mono ?_
    rintro e w2 ⟨rfl, hb2, hk2⟩
    have hk := hk1.trans0 hk2
    have hl2 := hl.kept hk
    go_wp2_with fail
    refine (step_any s b _ hs hb).mono ?_
    rintro e w3 ⟨rfl, rfl⟩
    go_wp2_with fail
    refine (rstep_any s b _ hs hb).mono ?_
    rintro e w3 ⟨rfl, rfl⟩
    go_wp2_with fail
    refine (more_any _ s _ _ _ l _ hs hl2 hb2).mono ?_
    rintro e w3 ⟨rfl, rfl⟩
    go_wp2_with fail
    refine (rmore_any s _ _ _ l _ hs hl2).mono ?_
    rintro e w3 ⟨rfl, rfl⟩
    go_wp2_with fail
    refine (sum_any _ _ _ _ l _ hl2 hb2).mono ?_
    rintro e w3 ⟨rfl, rfl⟩
    go_wp2_with fail
    refine (rmore_any 0 _ _ _ l _ (by omega) hl2).mono ?_
    rintro e w3 ⟨rfl, rfl⟩
    go_wp2
    go_ret
    exact ⟨rfl, hk⟩
end Go.Proofs.Ytcjakhlalmlklaa
