import Derived.Test.YtgbikakhnmjllaaLadA
import Derived.Deep.RegionHeld3
namespace Go.Proofs.Ytgbikakhnmjllaa
open Go Go.RowKit
/-- How a game ends, by scores and lives. -/
def endI (s0 s1 l0 l1 : Int) : Int := if s0 = s1 then (if l1 < l0 then 2 else if l0 < l1 then 0 else 1) else (if s1 < s0 then 2 else if s0 < s1 then 0 else 1)
structure St (cs : List Value) (s0 s1 l0 l1 : Int) : Prop where
  len : cs.length = 66
  c64 : cs[64]? = some (.int .i64 s0)
  c65 : cs[65]? = some (.int .i64 s1)
  c6 : cs[6]? = some (.int .i64 l0)
  c13 : cs[13]? = some (.int .i64 l1)
set_option maxRecDepth 100000 in
set_option maxHeartbeats 1600000 in
theorem end_any (cs : List Value) (s0 s1 l0 l1 : Int) (h : St cs s0 s1 l0 l1) (w : World) :
    Calls Try.prog 12 #[.agg cs.toArray] w fun e w' => e = .returned (.int .i64 (endI s0 s1 l0 l1)) ∧ Kept [] w w' := by
  have hb := Blk.new w cs 39
  have d64 := hb.cell h.c64
  have d65 := hb.cell h.c65
  have d6 := hb.cell h.c6
  have d13 := hb.cell h.c13
  clear hb h
  by_cases hs : s0 = s1
  · subst hs
    rcases Int.lt_trichotomy l0 l1 with hl | hl | hl
    · have hr := Lib.hid (show endI s0 s0 l0 l1 = 0 by unfold endI; omega)
      have g : ¬ l1 < l0 := by omega
      go_enter Try.func12, Try.ntmps12
      go_wp2
      go_quiet (fail)
      go_wp2
      go_quiet (fail)
      go_wp2
      go_ret
      exact ⟨by rw [hr.out]; rfl, ((Kept.refl _ _).alloc _).drewN _⟩
    · subst hl
      have hr := Lib.hid (show endI s0 s0 l0 l0 = 1 by unfold endI; omega)
      go_enter Try.func12, Try.ntmps12
      go_wp2
      go_quiet (fail)
      go_wp2
      go_quiet (fail)
      go_wp2
      go_ret
      exact ⟨by rw [hr.out]; rfl, ((Kept.refl _ _).alloc _).drewN _⟩
    · have hr := Lib.hid (show endI s0 s0 l0 l1 = 2 by unfold endI; omega)
      go_enter Try.func12, Try.ntmps12
      go_wp2
      go_quiet (fail)
      go_wp2
      go_quiet (fail)
      go_wp2
      go_ret
      exact ⟨by rw [hr.out]; rfl, ((Kept.refl _ _).alloc _).drewN _⟩
  · have g0 : (s0 == s1) = false := by simp [hs]
    rcases Int.lt_or_lt_of_ne hs with hl | hl
    · have hr := Lib.hid (show endI s0 s1 l0 l1 = 0 by unfold endI; omega)
      have g : ¬ s1 < s0 := by omega
      clear hs
      go_enter Try.func12, Try.ntmps12
      go_wp2
      go_quiet (fail)
      go_wp2
      go_ret
      exact ⟨by rw [hr.out]; rfl, ((Kept.refl _ _).alloc _).drewN _⟩
    · have hr := Lib.hid (show endI s0 s1 l0 l1 = 2 by unfold endI; omega)
      clear hs
      go_enter Try.func12, Try.ntmps12
      go_wp2
      go_quiet (fail)
      go_wp2
      go_ret
      exact ⟨by rw [hr.out]; rfl, ((Kept.refl _ _).alloc _).drewN _⟩
set_option maxRecDepth 100000 in
set_option maxHeartbeats 1600000 in
theorem rend_any (cs : List Value) (s0 s1 l0 l1 : Int) (h : St cs s0 s1 l0 l1) (w : World) :
    Calls Try.prog 13 #[.agg cs.toArray] w fun e w' => e = .returned (.int .i64 (endI s0 s1 l0 l1)) ∧ Kept [] w w' := by
  have hb := Blk.new w cs 39
  have d64 := hb.cell h.c64
  have d65 := hb.cell h.c65
  have d6 := hb.cell h.c6
  have d13 := hb.cell h.c13
  have e6 := fun o => (hb.alloc o).cell h.c6
  have e13 := fun o => (hb.alloc o).cell h.c13
  clear hb h
  by_cases hs : s0 = s1
  · subst hs
    rcases Int.lt_trichotomy l0 l1 with hl | hl | hl
    · have hr := Lib.hid (show endI s0 s0 l0 l1 = 0 by unfold endI; omega)
      have g : ¬ l1 < l0 := by omega
      go_enter Try.func13, Try.ntmps13
      go_wp2
      go_ret
      exact ⟨by rw [hr.out]; rfl, by repeat (first | exact Kept.refl _ _ | apply Kept.drew | apply Kept.alloc | (refine Kept.setCell ?_ (.inr (by simp)) _))⟩
    · subst hl
      have hr := Lib.hid (show endI s0 s0 l0 l0 = 1 by unfold endI; omega)
      go_enter Try.func13, Try.ntmps13
      go_wp2
      go_ret
      exact ⟨by rw [hr.out]; rfl, by repeat (first | exact Kept.refl _ _ | apply Kept.drew | apply Kept.alloc | (refine Kept.setCell ?_ (.inr (by simp)) _))⟩
    · have hr := Lib.hid (show endI s0 s0 l0 l1 = 2 by unfold endI; omega)
      go_enter Try.func13, Try.ntmps13
      go_wp2
      go_ret
      exact ⟨by rw [hr.out]; rfl, by repeat (first | exact Kept.refl _ _ | apply Kept.drew | apply Kept.alloc | (refine Kept.setCell ?_ (.inr (by simp)) _))⟩
  · have g0 : (s0 == s1) = false := by simp [hs]
    rcases Int.lt_or_lt_of_ne hs with hl | hl
    · have hr := Lib.hid (show endI s0 s1 l0 l1 = 0 by unfold endI; omega)
      have g : ¬ s1 < s0 := by omega
      clear hs
      go_enter Try.func13, Try.ntmps13
      go_wp2
      go_ret
      exact ⟨by rw [hr.out]; rfl, by repeat (first | exact Kept.refl _ _ | apply Kept.drew | apply Kept.alloc | (refine Kept.setCell ?_ (.inr (by simp)) _))⟩
    · have hr := Lib.hid (show endI s0 s1 l0 l1 = 2 by unfold endI; omega)
      clear hs
      go_enter Try.func13, Try.ntmps13
      go_wp2
      go_ret
      exact ⟨by rw [hr.out]; rfl, by repeat (first | exact Kept.refl _ _ | apply Kept.drew | apply Kept.alloc | (refine Kept.setCell ?_ (.inr (by simp)) _))⟩
end Go.Proofs.Ytgbikakhnmjllaa
