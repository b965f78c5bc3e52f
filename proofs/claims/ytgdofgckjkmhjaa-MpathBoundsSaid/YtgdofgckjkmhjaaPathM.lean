import Derived.Test.YtgdofgckjkmhjaaPathB
import Derived.Laws.BitsAllLaws
import Derived.WalkKit
namespace Go.Proofs.Ytgdofgckjkmhjaa
open Go Go.RowKit
theorem and64 {m k : Nat} (hm : m < 18446744073709551616) : bits .and .u64 ((m : Int) / 2 ^ k) 1 = ((m / 2 ^ k % 2 : Nat) : Int) := by
  have h : m / 2 ^ k < 18446744073709551616 := Nat.lt_of_le_of_lt (Nat.div_le_self _ _) hm
  have e := u64_and_nat (m / 2 ^ k) 1 h (by omega)
  rw [nat_mask1] at e
  rw [← e, Int.natCast_ediv, Int.natCast_pow]; rfl
theorem and64_bit {m k : Nat} (hm : m < 18446744073709551616) : bits .and .u64 ((m : Int) / 2 ^ k) 1 = if m.testBit k = true then 1 else 0 := by
  rw [and64 hm, Nat.testBit_eq_decide_div_mod_eq]
  by_cases h : m / 2 ^ k % 2 = 1
  · simp [h]
  · rw [show m / 2 ^ k % 2 = 0 by omega]; simp
theorem wrap_shl (m k : Nat) : IntKind.u64.wrap ((m : Int) * 2 ^ k) = ((m * 2 ^ k % 18446744073709551616 : Nat) : Int) := by
  rw [IntKind.wrap_u64, Int.natCast_emod, Int.natCast_mul, Int.natCast_pow]; rfl
def snc (s : Sn) : List Value := [.bool s.any, .int .u32 s.top, .int .u64 s.bits, .int .i64 s.came, .int .i64 s.twice, .int .i64 s.lost]
def moveN (s : Sn) (k : Nat) : Sn := { s with bits := shlB s.bits k, lost := s.lost + lz s.bits (min k 64) + (k - 64 : Nat) }
set_option maxHeartbeats 1600000 in
theorem move_any (b o k : Nat) (K : Int) (xs : List Value) (T : TypeId) (s : Sn) (w : World) (hb : Blk w b xs T) (hp : Part xs o (snc s)) (hK : K = (k : Int)) (hk : k ≤ 2147483648) (h0 : 0 < k) (hl0 : 0 ≤ s.lost) (hl1 : s.lost ≤ 1000000000000) (hbt : s.bits < 18446744073709551616) :
    Calls Try.prog 46 #[.pointer (some ⟨b, o, none⟩), .int .i64 K] w fun e w' => e = .returned (.tuple #[]) ∧ Blk w' b (setAll xs o (snc (moveN s k))) T ∧ Kept [b] w w' := by
  subst hK
  obtain ⟨g, hg⟩ : ∃ g, g = min k 64 := ⟨_, rfl⟩
  have hg64 : g ≤ 64 := by omega
  have hge : (if (64 : Int) < (k : Int) then (64 : Int) else (k : Int)) = (g : Int) := by split <;> omega
  have HG := Lib.hid hg
  have HL := Lib.hid (And.intro hl0 hl1)
  have HP := Lib.hid hp
  have HBT := Lib.hid hbt
  have hb' : Blk w b (setAll xs o (snc s)) T := by rw [hp.self]; exact hb
  clear hg hl0 hl1 hp hbt hb
  go_enter Try.func46, Try.ntmps46
  go_wp2
  try rw [hge]
  clear hge
  go_loopw [9] (fun iv wr => ∃ i : Nat, i ≤ g ∧ iv = .int .i64 i ∧ Blk wr b (setAll xs o (snc { s with lost := s.lost + lz s.bits i })) T ∧ Kept [b] w wr) (fun iv _ => g - (intOf iv).toNat)
  case atStart => exact ⟨0, by omega, rfl, by simpa [lz] using hb', Kept.refl _ _⟩
  case round =>
    clear hb'
    obtain ⟨i, hi, rfl, hbr, hkr⟩ := hrel
    have hpi : Part (setAll xs o (snc { s with lost := s.lost + lz s.bits i })) o (snc { s with lost := s.lost + lz s.bits i }) := HP.out.setAll _ rfl
    have c2 := hbr.part hpi 2 (.int .u64 s.bits) rfl
    have c5 := hbr.part hpi 5 (.int .i64 (s.lost + lz s.bits i)) rfl
    have hf := hbr.free
    by_cases hlt : i < g
    · have hs := Lib.hid (show lz s.bits (i + 1) = lz s.bits i + if s.bits.testBit (63 - i) = true then 0 else 1 from rfl)
      obtain ⟨x, hx⟩ : ∃ x, x = s.lost + lz s.bits i := ⟨_, rfl⟩
      have hx0 : 0 ≤ x := by have := HL.out; omega
      have hx1 : x.toNat ≤ 1000000000064 := by have := HL.out; have := lz_le s.bits i; omega
      rw [← hx] at c5 hbr
      have HX := Lib.hid hx
      have hi64 : (i : Int) < 64 := by omega
      have hi0 : (0 : Int) ≤ (i : Int) := by omega
      have hi1 : (i : Int) < (g : Int) := by omega
      have HB := Lib.hid hbr
      clear hx hpi hbr
      cases hbit : s.bits.testBit (63 - i)
      · have hb0 : (bits .and .u64 ((s.bits : Int) / 2 ^ (63 - i)) 1 == 0) = true := by rw [and64_bit HBT.out, hbit]; rfl
        have hs2 := Lib.hid (show x + 1 = s.lost + lz s.bits (i + 1) by rw [hs.out, hbit, HX.out]; simp; omega)
        have hs3 := Lib.hid ((HB.out.setp HP.out rfl 5 (.int .i64 (x + 1)) (by simp [snc])))
        clear hbit
        go_wp2
        go_roundw
        case rel => exact ⟨i + 1, by omega, by go_num, by rw [← hs2.out]; exact hs3.out, hkr.setCell (.inl (by simp)) _⟩
        case measure => simp [intOf] <;> omega
      · have hb0 : (bits .and .u64 ((s.bits : Int) / 2 ^ (63 - i)) 1 == 0) = false := by rw [and64_bit HBT.out, hbit]; rfl
        have hs2 := Lib.hid (show x = s.lost + lz s.bits (i + 1) by rw [hs.out, hbit, HX.out]; simp)
        clear hbit
        go_wp2
        go_roundw
        case rel => exact ⟨i + 1, by omega, by go_num, by rw [← hs2.out]; exact HB.out, hkr⟩
        case measure => simp [intOf] <;> omega
    · obtain rfl : i = g := by omega
      clear hlt
      obtain ⟨x, hx⟩ : ∃ x, x = s.lost + lz s.bits i := ⟨_, rfl⟩
      have hx0 : 0 ≤ x := by have := HL.out; omega
      have hx1 : x.toNat ≤ 1000000000064 := by have := HL.out; have := lz_le s.bits i; omega
      rw [← hx] at c5 hbr
      have hik : i ≤ k := by have := HG.out; omega
      have hii : (i : Int) ≤ (k : Int) := by omega
      have hkI : (k : Int) ≤ 2147483648 := by omega
      have E1 := hbr.setp HP.out rfl 5 (.int .i64 (x + ((k : Int) - (i : Int)))) (by simp [snc])
      have E2 := Lib.hid (fun B => E1.setp HP.out (by simp [snc]) 2 (.int .u64 B) (by simp [snc]))
      have K2 := Lib.hid (fun B => (hkr.setCell (p := ⟨b, o + 5, none⟩) (.inl (by simp)) (.int .i64 (x + ((k : Int) - (i : Int))))).setCell (p := ⟨b, o + 2, none⟩) (.inl (by simp)) (.int .u64 B))
      have hl2 := Lib.hid (show x + ((k : Int) - (i : Int)) = s.lost + lz s.bits (min k 64) + (k - 64 : Nat) by rw [hx, HG.out]; have := HG.out; omega)
      clear hx hpi hbr E1 hkr
      by_cases h64 : 64 ≤ k
      · have h64i : (64 : Int) ≤ (k : Int) := by omega
        have z := Lib.hid (show moveN s k = { s with bits := 0, lost := x + ((k : Int) - (i : Int)) } by unfold moveN shlB; rw [if_pos h64, hl2.out])
        go_wp2
        exact bodyPost_ret (results_none rfl _ _ _) rfl ⟨rfl, by rw [z.out]; exact E2.out 0, K2.out 0⟩
      · have h64i : (k : Int) < 64 := by omega
        have z := Lib.hid (show moveN s k = { s with bits := s.bits * 2 ^ k % 18446744073709551616, lost := x + ((k : Int) - (i : Int)) } by unfold moveN shlB; rw [if_neg h64, hl2.out])
        clear h64
        go_wp2
        go_end0
        have hw := wrap_shl s.bits k
        exact ⟨rfl, by rw [z.out, hw]; exact E2.out _, by rw [hw]; exact K2.out _⟩
end Go.Proofs.Ytgdofgckjkmhjaa
