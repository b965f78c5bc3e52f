/- Sums of words. Printed by k/gen_mpb.py. The bucket: what each of its functions does. Printed by k/gen_mpb.py. -/
import Derived.Test.YtgdofgckjkmhjaaMem
import Derived.Test.YtgdofgckjkmhjaaProg
import Derived.Handy
import Derived.LoopTactic
import Derived.Outline
import Derived.BigQuiet
import Derived.BigGuardPart
import Derived.Deep.DeepCutAuto
import Derived.Lib.Hide
import Derived.Laws.Bits64b
namespace Go.Proofs.Ytgdofgckjkmhjaa.Mp
open Go Go.RowKit
structure Hx (p : Prop) : Prop where
  out : p
theorem hx {p : Prop} (h : p) : Hx p := ⟨h⟩
def Fits (x : Int) : Prop := -9223372036854775808 ≤ x ∧ x ≤ 9223372036854775807
def hold (x : Int) : Int := if x < -9223372036854775808 then -9223372036854775808 else if 9223372036854775807 < x then 9223372036854775807 else x
theorem hold_bd (x : Int) : Fits (hold x) := by unfold hold Fits; (repeat' split) <;> omega
set_option maxHeartbeats 800000 in
theorem wadd_any (a b : Int) (w : World) (ha : Fits a) (hb : Fits b) :
    Calls Try.prog 33 #[.int .i64 a, .int .i64 b] w fun e w' => e = .returned (.int .i64 (hold (a + b))) ∧ w = w' := by
  obtain ⟨a1, a2⟩ := ha
  obtain ⟨b1, b2⟩ := hb
  have key : ((0 < b ∧ 9223372036854775807 - b < a) ∧ hold (a + b) = 9223372036854775807) ∨ ((b < 0 ∧ a < -9223372036854775808 - b) ∧ hold (a + b) = -9223372036854775808) ∨ (¬ (0 < b ∧ 9223372036854775807 - b < a) ∧ ¬ (b < 0 ∧ a < -9223372036854775808 - b) ∧ hold (a + b) = a + b) := by
    unfold hold
    omega
  rcases key with ⟨⟨h1, h2⟩, h⟩ | ⟨⟨h1, h2⟩, h⟩ | ⟨h1, h2, h⟩
  · rw [h]
    clear h
    go_enter Try.func33, Try.ntmps33
    go_wp2
    go_ret
    exact ⟨rfl, rfl⟩
  · have g1 : decide (0 < b) = false := by simp; omega
    rw [h]
    clear h
    go_enter Try.func33, Try.ntmps33
    go_wp2
    go_ret
    exact ⟨rfl, rfl⟩
  · rw [h]
    clear h
    rcases Int.lt_trichotomy b 0 with hb | hb | hb
    · have g1 : decide (0 < b) = false := by simp; omega
      have g2 : ¬ (a < -9223372036854775808 - b) := by omega
      clear h1 h2
      go_enter Try.func33, Try.ntmps33
      go_wp2
      go_ret
      exact ⟨rfl, rfl⟩
    · subst hb
      clear h1 h2
      go_enter Try.func33, Try.ntmps33
      go_wp2
      go_ret
      exact ⟨ret_int (by omega), rfl⟩
    · have g1 : decide (b < 0) = false := by simp; omega
      have g2 : ¬ (9223372036854775807 - b < a) := by omega
      clear h1 h2
      go_enter Try.func33, Try.ntmps33
      go_wp2
      go_ret
      exact ⟨rfl, rfl⟩
end Go.Proofs.Ytgdofgckjkmhjaa.Mp
namespace Go.Proofs.Ytgdofgckjkmhjaa.Mp
open Go Go.RowKit
theorem abs1_any (a : Int) (w : World) (h0 : 0 ≤ a) (h1 : a ≤ 1048576) :
    Calls Try.prog 49 #[.int .i64 a] w fun e w' => e = .returned (.int .u64 a) ∧ w = w' := by
  go_enter Try.func49, Try.ntmps49
  go_wp2
  go_ret
  exact ⟨rfl, rfl⟩
theorem low32 (a : Nat) (h : a ≤ 1048576) : bits .and .u64 (a : Int) 4294967295 = (a : Int) := by
  have h1 := bits_and_u64_nat a 4294967295 (by omega) (by omega)
  have h2 := Nat.and_two_pow_sub_one_eq_mod a 32
  rw [show (2 ^ 32 - 1 : Nat) = 4294967295 by rfl] at h2
  rw [h2] at h1
  refine Eq.trans h1 ?_
  rw [Nat.mod_eq_of_lt (by omega)]
set_option maxRecDepth 100000 in
set_option maxHeartbeats 3200000 in
theorem wide1_any (a : Nat) (w : World) (h1 : a ≤ 1048576) :
    Calls Try.prog 44 #[.int .i64 (a : Int), .int .i64 1] w fun e w' => e = .returned (.tuple #[.int .i64 0, .int .u64 (a : Int)]) ∧ w = w' := by
  have b1 := low32 a h1
  have b2 : bits .and .u64 1 4294967295 = 1 := low32 1 (by omega)
  have b3 : bits .and .u64 0 4294967295 = 0 := low32 0 (by omega)
  have s1 : (a : Int) / 4294967296 = 0 := by omega
  have s2 : IntKind.u64.wrap (a : Int) = (a : Int) := by rw [IntKind.wrap_u64]; omega
  go_enter Try.func44, Try.ntmps44
  go_upto_region 3 with (go_at_call 49; refine (abs1_any _ _ (by omega) (by omega)).mono ?_; rintro e w1 ⟨rfl, rfl⟩)
  go_upto_region 4 with fail
  go_upto_region 5 with fail
  go_upto_region 6 with fail
  go_wp2_with fail
  go_ret2
  exact ⟨rfl, rfl⟩
set_option maxHeartbeats 1600000 in
theorem mul1_any (a : Nat) (w : World) (h0 : 1 ≤ a) (h1 : a ≤ 1048576) :
    Calls Try.prog 35 #[.int .i64 (a : Int), .int .i64 1] w fun e w' => e = .returned (.int .i64 (a : Int)) ∧ w = w' := by
  have HW := hx (wide1_any a w h1)
  have z : ((a : Int) == 0) = false := beq_eq_false_iff_ne.2 (by omega)
  have hl : (a : Int) ≤ 9223372036854775807 := by omega
  have hd : decide ((a : Int) ≤ 9223372036854775807) = true := decide_eq_true hl
  go_enter Try.func35, Try.ntmps35
  go_wp2_with (go_at_call 44; refine HW.out.mono ?_; rintro e w1 ⟨rfl, rfl⟩)
  go_ret
  exact ⟨rfl, rfl⟩
/-- The bucket's cells. -/
def bkc (rate burst held spent full : Int) : List Value := [.int .i64 rate, .int .i64 burst, .int .i64 held, .int .i64 spent, .int .i64 full]
set_option maxHeartbeats 800000 in
theorem bnew_any (rate burst : Int) (w : World) (h1 : 1 ≤ rate ∧ rate ≤ 1048576) (h2 : 1 ≤ burst ∧ burst ≤ 16777216) :
    Calls Try.prog 14 #[.int .i64 rate, .int .i64 burst] w fun e w' => e = .returned (.tuple #[.pointer (some ⟨w.heap.size, 0, none⟩), .int .i64 0]) ∧ Blk w' w.heap.size (bkc rate burst burst 0 0) 76 ∧ Kept [] w w' := by
  have g1 : decide (rate < 1) = false := by simp; omega
  have g2 : decide (1048576 < rate) = false := by simp; omega
  have g3 : decide (burst < 1) = false := by simp; omega
  have g4 : decide (16777216 < burst) = false := by simp; omega
  go_enter Try.func14, Try.ntmps14
  go_wp2
  go_ret2
  exact ⟨rfl, Blk.new' _ _ _, (Kept.refl _ _).alloc _⟩
set_option maxHeartbeats 800000 in
theorem may_any (b : Nat) (rate burst held spent full n : Int) (w : World) (hb : Blk w b (bkc rate burst held spent full) 76) :
    Calls Try.prog 19 #[.pointer (some ⟨b, 0, none⟩), .int .i64 n] w fun e w' => e = .returned (.bool (decide (0 ≤ n ∧ n ≤ held))) ∧ w = w' := by
  have c2 := hb.cell (i := 2) (v := .int .i64 held) rfl
  clear hb
  by_cases h0 : 0 ≤ n
  · have d0 : decide (0 ≤ n) = true := decide_eq_true h0
    have HE := hx (show decide (0 ≤ n ∧ n ≤ held) = decide (n ≤ held) from decide_eq_decide.2 (by omega))
    rw [HE.out]
    go_enter Try.func19, Try.ntmps19
    go_wp2
    go_ret
    exact ⟨rfl, rfl⟩
  · have d0 : decide (0 ≤ n) = false := decide_eq_false h0
    rw [decide_eq_false (fun h => h0 h.1)]
    go_enter Try.func19, Try.ntmps19
    go_wp2
    go_ret
    exact ⟨rfl, rfl⟩
set_option maxHeartbeats 1600000 in
theorem btake_no (b : Nat) (rate burst held spent full n : Int) (w : World) (hb : Blk w b (bkc rate burst held spent full) 76) (hn : ¬ (0 ≤ n ∧ n ≤ held)) :
    Calls Try.prog 20 #[.pointer (some ⟨b, 0, none⟩), .int .i64 n] w fun e w' => e = .returned (.bool false) ∧ w = w' := by
  have HM := hx (may_any b rate burst held spent full n w hb)
  rw [decide_eq_false hn] at HM
  clear hn hb
  go_enter Try.func20, Try.ntmps20
  go_wp2_with (go_at_call 19; refine HM.out.mono ?_; rintro e w1 ⟨rfl, rfl⟩)
  go_ret
  exact ⟨rfl, rfl⟩
set_option maxHeartbeats 1600000 in
theorem btake_yes (b : Nat) (rate burst held spent full n : Int) (w : World) (hb : Blk w b (bkc rate burst held spent full) 76) (h0 : 0 ≤ n) (hn : n ≤ held) (hh : held ≤ 16777216) (hs : Fits spent) :
    Calls Try.prog 20 #[.pointer (some ⟨b, 0, none⟩), .int .i64 n] w fun e w' => e = .returned (.bool true) ∧ Blk w' b (bkc rate burst (held - n) (hold (spent + n)) full) 76 ∧ Kept [b] w w' := by
  have HM := hx (may_any b rate burst held spent full n w hb)
  rw [decide_eq_true ⟨h0, hn⟩] at HM
  have HA := hx (fun W => wadd_any spent n W hs ⟨by omega, by omega⟩)
  have c2 := hb.cell (i := 2) (v := .int .i64 held) rfl
  have hf := hb.free
  have B1 := hx (hb.set 2 (.int .i64 (held - n)))
  have K1 := hx ((Kept.refl [b] w).setCell (p := ⟨b, 2, none⟩) (.inl (by simp)) (.int .i64 (held - n)))
  clear hb hs
  go_enter Try.func20, Try.ntmps20
  go_upto_region 4 with (go_at_call 19; refine HM.out.mono ?_; rintro e w1 ⟨rfl, rfl⟩)
  generalize hw1 : World.setCell w _ _ = w1
  have b1 : Blk w1 b (bkc rate burst (held - n) spent full) 76 := by rw [← hw1]; exact B1.out
  have k1 : Kept [b] w w1 := by rw [← hw1]; exact K1.out
  clear hw1 c2 hf B1 K1
  have c3 := b1.cell (i := 3) (v := .int .i64 spent) rfl
  have hf := b1.free
  have B2 := hx (b1.set 3 (.int .i64 (hold (spent + n))))
  have K2 := hx (k1.setCell (p := ⟨b, 3, none⟩) (.inl (by simp)) (.int .i64 (hold (spent + n))))
  clear b1 k1
  go_wp2_with (go_at_call 33; refine (HA.out _).mono ?_; rintro e w1 ⟨rfl, rfl⟩)
  go_ret
  exact ⟨rfl, B2.out, K2.out⟩
/-- The bucket a tick on. -/
def heldT (rate burst held : Int) : Int := held + min rate (burst - held)
def fullT (rate burst held full : Int) : Int := hold (full + max 0 (rate - (burst - held)))
set_option maxRecDepth 100000 in
set_option maxHeartbeats 3200000 in
theorem btick_any (b rt : Nat) (burst held spent full : Int) (w : World) (hb : Blk w b (bkc rt burst held spent full) 76) (hr : 1 ≤ rt ∧ rt ≤ 1048576) (h2 : 1 ≤ burst ∧ burst ≤ 16777216) (h0 : 0 ≤ held ∧ held ≤ burst) (hs : Fits full) :
    Calls Try.prog 23 #[.pointer (some ⟨b, 0, none⟩), .int .i64 1] w fun e w' => e = .returned (.tuple #[]) ∧ Blk w' b (bkc rt burst (heldT rt burst held) spent (fullT rt burst held full)) 76 ∧ Kept [b] w w' := by
  have HM := hx (fun W => mul1_any rt W hr.1 hr.2)
  have HA := hx (fun (x : Int) W (hx : x = max 0 ((rt : Int) - (burst - held))) => show Calls Try.prog 33 #[.int .i64 full, .int .i64 x] W (fun e w' => e = .returned (.int .i64 (fullT rt burst held full)) ∧ W = w') from by subst hx; exact wadd_any full _ W hs ⟨by omega, by omega⟩)
  have HB := hx hb
  have c0 := hb.cell (i := 0) (v := .int .i64 rt) rfl
  have HHT := hx (show heldT rt burst held = held + min (rt : Int) (burst - held) from rfl)
  have hht : 0 ≤ heldT rt burst held ∧ heldT rt burst held ≤ 16777216 := by unfold heldT; omega
  clear hb
  go_enter Try.func23, Try.ntmps23
  go_upto_region 1 with (go_at_call 35; refine (HM.out _).mono ?_; rintro e w1 ⟨rfl, rfl⟩)
  have c1 := HB.out.cell (i := 1) (v := .int .i64 burst) rfl
  have c2 := HB.out.cell (i := 2) (v := .int .i64 held) rfl
  clear c0
  go_cut [5] (fun s5 wx => s5 = .int .i64 (burst - held) ∧ Kept [] w wx)
  case first =>
    go_quiet (fail)
    all_goals (go_wp2_with fail)
    all_goals (go_meet; exact ⟨rfl, (Kept.refl _ _).drewN _⟩)
  case rest =>
    obtain ⟨rfl, hk⟩ := hcut
    have HB1 := hx (hk.blk HB.out (by simp))
    have HK1 := hx hk
    clear c1 c2 hk
    have c2 := HB1.out.cell (i := 2) (v := .int .i64 held) rfl
    have hf := HB1.out.free
    clear hht
    by_cases hmm : burst - held < (rt : Int)
    all_goals
      go_upto_region 3 with fail
      generalize hw1 : World.setCell wc _ _ = w1
      have b1 : Blk w1 b (bkc rt burst (heldT rt burst held) spent full) 76 := by
        rw [← hw1]
        refine (show ∀ x, x = heldT rt burst held → Blk (wc.setCell ⟨b, 2, none⟩ (.int .i64 x)) b (bkc rt burst (heldT rt burst held) spent full) 76 from fun x hx => by subst hx; exact HB1.out.set 2 _) _ ?_
        rw [HHT.out]
        first | omega | (split <;> omega)
      have k1 : Kept [b] w w1 := by rw [← hw1]; exact (HK1.out.mono (by simp)).setCell (.inl (by simp)) _
      clear hw1 c2 hf
      have c4 := b1.cell (i := 4) (v := .int .i64 full) rfl
      have hf := b1.free
      have B2 := hx (b1.set 4 (.int .i64 (fullT rt burst held full)))
      have K2 := hx (k1.setCell (p := ⟨b, 4, none⟩) (.inl (by simp)) (.int .i64 (fullT rt burst held full)))
      clear b1 k1
      go_wp2_with (go_at_call 33; refine (HA.out _ _ (by first | omega | (split <;> omega))).mono ?_; rintro e w1 ⟨rfl, rfl⟩)
      go_end0
      exact ⟨rfl, B2.out, K2.out⟩
end Go.Proofs.Ytgdofgckjkmhjaa.Mp
