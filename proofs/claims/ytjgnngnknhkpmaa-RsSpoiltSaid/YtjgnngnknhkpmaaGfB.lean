/- The field's operations. -/
import Derived.Test.YtjgnngnknhkpmaaGfA
import Derived.BigQuiet
import Derived.StillTailTactics
namespace Go.Proofs.Ytjgnngnknhkpmaa
open Go Go.RowKit
theorem gmul_of {a b : Nat} (ha : ¬ a = 0) (hb : ¬ b = 0) : gmul a b = gw ((glog a + glog b) % 255) := by unfold gmul; rw [if_neg (by omega)]
set_option maxRecDepth 100000 in
set_option maxHeartbeats 4000000 in
theorem gfmul_any (t a b : Nat) (w : World) (hT : Blk w t (tabC 255) 73) (ha : a < 256) (hb : b < 256) :
    Calls Try.prog 57 #[.pointer (some ⟨t, 0, none⟩), .int .u8 a, .int .u8 b] w fun e w' => e = .returned (.int .u8 (gmul a b : Nat)) ∧ ∃ n, w' = w.drewN n := by
  by_cases h : a = 0 ∨ b = 0
  · have hg : gmul a b = 0 := by unfold gmul; rw [if_pos h]
    rw [hg]
    by_cases h1 : a = 0
    · subst h1
      clear h hg
      go_enter Try.func57, Try.ntmps57
      go_wp2
      go_ret
      exact ⟨rfl, 0, rfl⟩
    · have h2 : b = 0 := by omega
      subst h2
      have h1i : ((a : Int) == 0) = false := beq_eq_false_iff_ne.2 (by omega)
      clear h hg
      go_enter Try.func57, Try.ntmps57
      go_wp2
      go_ret
      exact ⟨rfl, 0, rfl⟩
  · have h1 : ((a : Int) == 0) = false := beq_eq_false_iff_ne.2 (by omega)
    have h2 : ((b : Int) == 0) = false := beq_eq_false_iff_ne.2 (by omega)
    rw [gmul_of (by omega) (by omega)]
    have la := glog_lt a
    have lb := glog_lt b
    have ca := hT.cell (tab_log a ha)
    have cb := hT.cell (tab_log b hb)
    have ce := hT.cell (tab_exp (glog a + glog b) (by omega))
    generalize glog a = x at *
    generalize glog b = y at *
    generalize gw ((x + y) % 255) = z at *
    clear h hT
    go_enter Try.func57, Try.ntmps57
    go_wp2_with fail
    go_quiet (fail)
    go_wp2
    go_ret
    exact ⟨rfl, nq, rfl⟩
set_option maxRecDepth 100000 in
set_option maxHeartbeats 4000000 in
theorem gfinv_any (t a : Nat) (w : World) (hT : Blk w t (tabC 255) 73) (h0 : ¬ a = 0) (ha : a < 256) :
    Calls Try.prog 55 #[.pointer (some ⟨t, 0, none⟩), .int .u8 a] w fun e w' => e = .returned (.tuple #[.int .u8 (ginv a : Nat), .int .i64 0]) ∧ ∃ n, w' = w.drewN n := by
  have h1 : ((a : Int) == 0) = false := beq_eq_false_iff_ne.2 (by omega)
  have hg : ginv a = gw ((255 - glog a) % 255) := rfl
  rw [hg]
  have la := glog_lt a
  have ca := hT.cell (tab_log a ha)
  have ce := hT.cell (tab_exp (255 - glog a) (by omega))
  generalize glog a = x at *
  obtain ⟨y, hy⟩ : ∃ y, 255 - x = y := ⟨_, rfl⟩
  rw [hy] at ce ⊢
  have hyi : (255 : Int) - (x : Int) = (y : Int) := by omega
  have hyb : y < 510 := by omega
  generalize gw (y % 255) = z at *
  clear h0 hT hg hy
  go_enter Try.func55, Try.ntmps55
  go_wp2_with fail
  go_quiet (fail)
  go_wp2
  go_ret2
  exact ⟨rfl, nq, rfl⟩
set_option maxRecDepth 100000 in
set_option maxHeartbeats 4000000 in
theorem gfexp_any (t n : Nat) (w : World) (hT : Blk w t (tabC 255) 73) (hn : n < 100000) :
    Calls Try.prog 54 #[.pointer (some ⟨t, 0, none⟩), .int .i64 n] w fun e w' => e = .returned (.int .u8 (gexp n : Nat)) ∧ w = w' := by
  have hg : gexp n = gw (n % 255) := rfl
  rw [hg]
  have ce := hT.cell (tab_exp (n % 255) (by omega))
  rw [Nat.mod_mod] at ce
  have hb : (n : Int) < 100000 := by omega
  obtain ⟨y, hy⟩ : ∃ y, n % 255 = y := ⟨_, rfl⟩
  rw [hy] at ce ⊢
  have hyi : (n : Int) % 255 = (y : Int) := by omega
  have hyb : y < 255 := by omega
  have hy2 : ((y : Int) + 255) % 255 = (y : Int) := by omega
  generalize gw y = z at *
  clear hT hg hy
  go_enter Try.func54, Try.ntmps54
  go_wp2_with fail
  go_ret
  exact ⟨rfl, rfl⟩
theorem gexp_pow (a n : Nat) (h0 : ¬ a = 0) (hn : ¬ n = 0) : gexp (glog a * (n % 255)) = gpow a n := by
  unfold gpow gexp
  rw [if_neg hn, if_neg h0]
set_option maxRecDepth 100000 in
set_option maxHeartbeats 4000000 in
theorem gfpow_any (t a n : Nat) (w : World) (hT : Blk w t (tabC 255) 73) (ha : a < 256) (hn : n < 100000) :
    Calls Try.prog 44 #[.pointer (some ⟨t, 0, none⟩), .int .u8 a, .int .i64 n] w fun e w' => e = .returned (.tuple #[.int .u8 (gpow a n : Nat), .int .i64 0]) ∧ w = w' := by
  by_cases h0 : n = 0
  · subst h0
    go_enter Try.func44, Try.ntmps44
    go_wp2
    go_ret2
    exact ⟨rfl, rfl⟩
  · have hni : ((n : Int) == 0) = false := beq_eq_false_iff_ne.2 (by omega)
    have hnn : ¬ (n : Int) < 0 := by omega
    have hnb : (n : Int) < 100000 := by omega
    by_cases h1 : a = 0
    · subst h1
      have hg : gpow 0 n = 0 := by unfold gpow; rw [if_neg h0, if_pos rfl]
      rw [hg]
      go_enter Try.func44, Try.ntmps44
      go_wp2
      go_ret2
      exact ⟨rfl, rfl⟩
    · have hai : ((a : Int) == 0) = false := beq_eq_false_iff_ne.2 (by omega)
      have HE := hx (gexp_pow a n h1 h0)
      have la := glog_lt a
      have ca := hT.cell (tab_log a ha)
      have hm : glog a * (n % 255) < 100000 := by
        have h2 : n % 255 < 255 := Nat.mod_lt _ (by omega)
        have h3 := Nat.mul_le_mul (show glog a ≤ 254 by omega) (show n % 255 ≤ 254 by omega)
        omega
      have HX := hx (gfexp_any t (glog a * (n % 255)) w hT hm)
      have hmi : (((glog a * (n % 255) : Nat)) : Int) = (glog a : Int) * ((n : Int) % 255) := by rw [Int.natCast_mul, Int.natCast_emod]; rfl
      rw [hmi] at HX
      have hmb : (glog a : Int) * ((n : Int) % 255) < 100000 := by rw [← hmi]; omega
      have hmc : 0 ≤ (glog a : Int) * ((n : Int) % 255) := by rw [← hmi]; omega
      have hmw : IntKind.i64.wrap ((glog a : Int) * ((n : Int) % 255)) = (glog a : Int) * ((n : Int) % 255) := by rw [IntKind.wrap_i64]; omega
      rw [HE.out] at HX
      generalize glog a = x at *
      clear hT hm hmi h0 h1
      go_enter Try.func44, Try.ntmps44
      go_wp2_with fail
      refine HX.out.mono ?_
      rintro e w2 ⟨rfl, rfl⟩
      go_wp2
      go_ret2
      exact ⟨rfl, rfl⟩
end Go.Proofs.Ytjgnngnknhkpmaa
