import Derived.Test.YtpedenaaiinakaaCrcB
import Derived.Test.YtpedenaaiinakaaRefA
namespace Go.Proofs.Ytpedenaaiinakaa
open Go.RowKit
/-- Bytes as a number, the highest first. -/
def beg (l : List UInt8) : Nat := l.foldl (fun r b => r * 256 + b.toNat) 0
theorem beg_snoc (l : List UInt8) (k : Nat) (h : k < l.length) : beg (l.take (k + 1)) = beg (l.take k) * 256 + l[k].toNat := take_fold _ _ _ h _
theorem beg_lt (l : List UInt8) : beg l < 256 ^ l.length := by
  unfold beg
  suffices h : ∀ (r : Nat), l.foldl (fun r b => r * 256 + b.toNat) r < (r + 1) * 256 ^ l.length by simpa using h 0
  induction l with
  | nil => intro r; simp
  | cons b l ih =>
    intro r
    have h1 := ih (r * 256 + b.toNat)
    have h2 := b.toNat_lt
    simp only [List.foldl_cons, List.length_cons, Nat.pow_succ]
    refine Nat.lt_of_lt_of_le h1 ?_
    rw [show (r + 1) * (256 ^ l.length * 256) = ((r + 1) * 256) * 256 ^ l.length by rw [Nat.mul_comm (256 ^ l.length), Nat.mul_assoc]]
    exact Nat.mul_le_mul_right _ (by omega)
set_option maxHeartbeats 400000 in
theorem get_any (a : Option Addr) (n c : Nat) (l : List UInt8) (w : World) (hl : Bts w a n c l) (h8 : l.length ≤ 8) :
    Calls Try.prog 31 #[.slice a n c] w fun e w' => e = .returned (.int .u64 (beg l : Nat)) ∧ w = w' := by
  have hle := hl.hle
  have htop := hl.htop
  obtain rfl := hl.hlen
  unfold maxLen at htop
  have h88 : (l.length : Int) ≤ 8 := by omega
  go_enter Try.func31, Try.ntmps31
  go_wp2
  go_loop [3, 12] (fun v i => ∃ k : Nat, k ≤ l.length ∧ i = .int .i64 k ∧ v = .int .u64 ((beg (l.take k) : Nat) : Int)) (fun _ i => l.length - (intOf i).toNat)
  case atStart => exact ⟨0, Nat.zero_le _, rfl, rfl⟩
  case round =>
    obtain ⟨k, hk, rfl, rfl⟩ := hrel
    by_cases hlt : k < l.length
    · obtain ⟨b, off, rfl⟩ := hl.some (by omega)
      have hc := hl.at k hlt
      have hb := l[k].toNat_lt
      have hs := Lib.hid (beg_snoc l k hlt)
      have hx : beg (l.take k) < 256 ^ 7 := Nat.lt_of_lt_of_le (beg_lt _) (Nat.pow_le_pow_right (by omega) (by simp; omega))
      rw [show 256 ^ 7 = 72057594037927936 from rfl] at hx
      generalize beg (l.take k) = x at *
      have hor : bits .or .u64 ((x : Int) * 256) (l[k].toNat : Int) = ((x * 256 + l[k].toNat : Nat) : Int) := by
        rw [← nat_join 8 (x * 256) l[k].toNat (by omega) (by omega)]
        exact u64_or_nat (x * 256) _ (by omega) (by omega)
      go_wp2
      go_round
      case rel => exact ⟨k + 1, by omega, by go_num, by rw [hs.out]; simp⟩
      case measure => simp [intOf] <;> omega
    · obtain rfl : k = l.length := by omega
      go_wp2
      go_ret
      exact ⟨by simp, rfl⟩
end Go.Proofs.Ytpedenaaiinakaa
