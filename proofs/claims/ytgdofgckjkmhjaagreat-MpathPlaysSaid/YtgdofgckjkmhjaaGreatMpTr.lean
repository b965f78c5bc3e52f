/- The program's sender: Trip. -/
import Derived.Test.YtgdofgckjkmhjaaGreatRfH
set_option linter.unusedSimpArgs false
set_option linter.unusedVariables false
namespace Go.Proofs.YtgdofgckjkmhjaaGreat.Mp
open Go Go.RowKit
open Qd (dvl dv0 dvl_one infoDg step_of)
theorem pac_s0 {m : Ms} {b q i : Nat} (hi : i < 2) : Part (sdc m b q) (i * 15) (stc (m.way i).s) := pac_s (part_way m b q hi)
set_option linter.unusedSimpArgs false in
set_option maxRecDepth 100000 in
set_option maxHeartbeats 6400000 in
theorem trip_yes (s b0 q : Nat) (v : Value) (m : Ms) (i th : Nat) (w : World) (r : Sr w s b0 q v m) (hi : i < 2) (hs : StOk (m.way i).s 1000000) (hn : m.now < 4294967296) (ht : th < 4294967296) (hb : ago m.now th ≤ 2000) :
    Calls Tryz.prog 38 #[.pointer (some ⟨s, 0, none⟩), .int .i64 (i : Int), .int .u32 (th : Int)] w fun e w' => e = .returned (.tuple #[]) ∧ Sr w' s b0 q v (tripW m i (ago m.now th)) ∧ Kept [s] w w' := by
  obtain ⟨b, hbe⟩ : ∃ b, ago m.now th = b := ⟨_, rfl⟩
  have hw := ago_wrap m.now th hn ht
  rw [hbe] at hw hb
  rw [hbe]
  have HR := hx r
  have HTR := hx (trip_any s (i * 15) (sdc m b0 q) 74 (m.way i).s b w r.hs (pac_s0 hi) hs)
  have HI := hx hi
  have cn := r.hs.cell (i := 33) (v := .int .u32 m.now) rfl
  have d0 : decide ((0 : Int) ≤ (i : Int)) = true := decide_eq_true (by omega)
  have d1 : decide ((i : Int) < 2) = true := decide_eq_true (by omega)
  have d2 : decide ((b : Int) ≤ 2000) = true := decide_eq_true (by omega)
  have d3 : decide ((0 : Int) ≤ (b : Int)) = true := decide_eq_true (by omega)
  have hii : (i : Int) < 2 := by omega
  have hbb : (b : Int) ≤ 2000 := by omega
  clear hbe hs hi hb r
  go_enter Tryz.func38, Tryz.ntmps38
  go_upto_region 1 with fail
  clear cn

  go_upto_region 2 with fail
  go_wp2_with (go_at_call 67; refine HTR.out.mono ?_; rintro e w1 ⟨rfl, hb1, hk1⟩; have B1 := hx hb1; have K1 := hx hk1; clear hb1 hk1)
  go_end0
  refine ⟨rfl, ?_, K1.out⟩
  have h := B1.out
  rw [pac_set_s (part_way m b0 q HI.out)] at h
  exact HR.out.way HI.out _ K1.out h
set_option linter.unusedSimpArgs false in
set_option maxRecDepth 100000 in
set_option maxHeartbeats 6400000 in
theorem trip_no (s b0 q : Nat) (v : Value) (m : Ms) (i : Int) (th : Nat) (w : World) (r : Sr w s b0 q v m) (hn : m.now < 4294967296) (ht : th < 4294967296) (hno : i < 0 ∨ 1 < i ∨ 2000 < ago m.now th) :
    Calls Tryz.prog 38 #[.pointer (some ⟨s, 0, none⟩), .int .i64 i, .int .u32 (th : Int)] w fun e w' => e = .returned (.tuple #[]) ∧ w = w' := by
  obtain ⟨b, hbe⟩ : ∃ b, ago m.now th = b := ⟨_, rfl⟩
  have hw := ago_wrap m.now th hn ht
  rw [hbe] at hw hno
  have hbl : b < 4294967296 := by rw [← hbe]; exact Nat.mod_lt _ (by omega)
  have HNO := hx hno
  have cn := r.hs.cell (i := 33) (v := .int .u32 m.now) rfl
  clear hbe r hno
  by_cases h0 : i < 0
  · have d0 : decide ((0 : Int) ≤ i) = false := decide_eq_false (by omega)
    go_enter Tryz.func38, Tryz.ntmps38
    go_wp2_with fail
    go_end0
    exact ⟨rfl, rfl⟩
  · have d0 : decide ((0 : Int) ≤ i) = true := decide_eq_true (by omega)
    by_cases h1 : 1 < i
    · have d1 : decide (i < 2) = false := decide_eq_false (by omega)
      go_enter Tryz.func38, Tryz.ntmps38
      go_wp2_with fail
      go_end0
      exact ⟨rfl, rfl⟩
    · have d1 : decide (i < 2) = true := decide_eq_true (by omega)
      have hb2 : 2000 < b := by have := HNO.out; omega
      by_cases h31 : b < 2147483648
      · have hb3 : (b : Int) < 2147483648 := by omega
        have d2 : decide ((b : Int) ≤ 2000) = false := decide_eq_false (by omega)
        have d3 : decide ((0 : Int) ≤ (b : Int)) = true := decide_eq_true (by omega)
        have d4 : decide (b ≤ 2000) = false := decide_eq_false (by omega)
        go_enter Tryz.func38, Tryz.ntmps38
        go_wp2_with fail
        go_end0
        exact ⟨rfl, rfl⟩
      · have hb3 : 2147483648 ≤ (b : Int) := by omega
        have h32 : IntKind.i32.wrap (b : Int) = (b : Int) - 4294967296 := by
          unfold IntKind.wrap
          simp [IntKind.bits, IntKind.signed]
          omega
        have d3 : decide ((0 : Int) ≤ (b : Int) - 4294967296) = false := decide_eq_false (by omega)
        have d5 : decide ((4294967296 : Int) ≤ (b : Int)) = false := decide_eq_false (by omega)
        go_enter Tryz.func38, Tryz.ntmps38
        go_wp2_with fail
        go_end0
        exact ⟨rfl, rfl⟩
end Go.Proofs.YtgdofgckjkmhjaaGreat.Mp
