/- The document's inverse of an element. -/
import Derived.Test.YtjgnngnknhkpmaaRsT
namespace Go.Proofs.Ytjgnngnknhkpmaa
open Go Go.RowKit
def invR (a : Nat) : Nat := if a = 0 then 0 else ginv a
theorem invR_lt (a : Nat) : invR a < 256 := by
  unfold invR
  split
  · omega
  · exact ginv_lt a
theorem invR_hit (a b : Nat) (ha : a < 256) (hb : b < 256) (h : mulR a b = 1) : invR a = b := by
  rw [mulR_gmul a b ha hb] at h
  have h0 : a ≠ 0 := fun g => by rw [g, zero_gmul] at h; omega
  unfold invR
  rw [if_neg h0]
  have h1 := gmul_assoc (ginv a) a b
  rw [h, gmul_comm (ginv a) a, gmul_inv a h0, one_gmul b hb, gmul_comm, one_gmul _ (ginv_lt a)] at h1
  exact h1.symm
theorem invR_miss (a : Nat) (ha : a < 256) (h : ∀ q, 1 ≤ q → q < 256 → mulR a q ≠ 1) : invR a = 0 := by
  unfold invR
  by_cases h0 : a = 0
  · rw [if_pos h0]
  · exfalso
    have h1 := gmul_inv a h0
    have h2 := ginv_lt a
    rw [← mulR_gmul a _ ha h2] at h1
    refine h (ginv a) ?_ h2 h1
    rcases Nat.eq_zero_or_pos (ginv a) with g | g
    · rw [g, mulR_gmul a 0 ha (by omega), gmul_zero] at h1; omega
    · exact g
set_option maxRecDepth 100000 in
set_option maxHeartbeats 4000000 in
theorem refinv_any (a : Nat) (w : World) (ha : a < 256) :
    Calls Try.prog 36 #[.int .u8 a] w fun e w' => e = .returned (.int .u8 (invR a : Nat)) ∧ w = w' := by
  have HM := hx (fun b wr (hb : b < 256) => refmul_any a b wr ha hb)
  have HI := hx (fun b (hb : b < 256) => invR_hit a b ha hb)
  have HN := hx (invR_miss a ha)
  go_enter Try.func36, Try.ntmps36
  go_wp2_with fail
  go_loopw [3] (fun bv wr => ∃ b : Nat, 1 ≤ b ∧ b ≤ 256 ∧ bv = .int .i64 b ∧ Hx (∀ q, 1 ≤ q → q < b → mulR a q ≠ 1) ∧ w = wr) (fun bv _ => 256 - (intOf bv).toNat)
  case atStart => exact ⟨1, by omega, by omega, rfl, hx (fun q h1 h2 => by omega), rfl⟩
  case round =>
    obtain ⟨b, hb1, hb2, rfl, HQ, rfl⟩ := hrel
    by_cases hlt : b < 256
    · have hj : (b : Int) < 256 := by omega
      have hwr : IntKind.u8.wrap (b : Int) = (b : Int) := by rw [IntKind.wrap_u8]; omega
      have HS := hx (fun (h : mulR a b ≠ 1) => hx (fun q (h1 : 1 ≤ q) (h2 : q < b + 1) => show mulR a q ≠ 1 by
        by_cases hq : q = b
        · rw [hq]; exact h
        · exact HQ.out q h1 (by omega)))
      have HH := hx (HI.out b hlt)
      have HC := hx (HM.out b w hlt)
      generalize mulR a b = x at *
      go_wp2_with fail
      refine HC.out.mono ?_
      rintro e w2 ⟨rfl, rfl⟩
      by_cases h1 : x = 1
      · have h1b : ((x : Int) == 1) = true := by rw [h1]; rfl
        have HE := hx (HH.out h1)
        clear h1
        go_wp2_with fail
        go_ret
        exact ⟨by rw [HE.out]; rfl, rfl⟩
      · have h1b : ((x : Int) == 1) = false := beq_eq_false_iff_ne.2 (by omega)
        have HQ2 := HS.out h1
        clear h1
        go_wp2_with fail
        go_roundw
        case rel => exact ⟨b + 1, by omega, by omega, by go_num, HQ2, trivial⟩
        case measure => simp [intOf] <;> omega
    · obtain rfl : b = 256 := by omega
      have HE := hx (HN.out HQ.out)
      go_wp2_with fail
      go_ret
      exact ⟨by rw [HE.out]; rfl, rfl⟩
end Go.Proofs.Ytjgnngnknhkpmaa
