import Derived.Test.YthkjllphefnphaaPathZ
namespace Go.Proofs.Ythkjllphefnphaa
open Go Go.RowKit
theorem wrd_lt (bits k : Nat) (h : bits < 18446744073709551616) (hk : 1 ≤ k) : wrd bits k < 9223372036854775808 := by
  unfold wrd
  have h2 : 2 ^ 1 ≤ 2 ^ k := Nat.pow_le_pow_right (by omega) hk
  have := Nat.div_le_div_left h2 (show 0 < 2 ^ 1 by omega) (a := bits)
  omega
set_option maxRecDepth 100000 in
set_option maxHeartbeats 1600000 in
theorem rbits_any (s : Sn) (w : World) (h : s.bits < 18446744073709551616) :
    Calls Try.prog 39 #[.agg (rsc s).toArray] w fun e w' => e = .returned (.int .u64 s.bits) ∧ Kept [] w w' := by
  have HBB := hx h
  have hb := Blk.new w (rsc s) 35
  have HB := hx hb
  have hk := hx ((Kept.refl [] w).alloc (.cells (rsc s).toArray 35))
  clear h hb
  go_enter Try.func39, Try.ntmps39
  go_upto_region 1 with fail
  generalize w.alloc (.cells (rsc s).toArray 35) = W at *
  have hsz := HB.out.lt
  go_wp2
  go_loopw [3, 4] (fun vv iv wr => ∃ m : Nat, m ≤ 64 ∧ iv = .int .i64 ((m : Int) - 1) ∧ vv = .int .u64 ((wrd s.bits m : Nat) : Int) ∧ wr = W) (fun _ iv _ => (intOf iv + 1).toNat)
  case atStart => exact ⟨64, by omega, rfl, by rw [wrd_64 _ HBB.out]; rfl, rfl⟩
  case round =>
    obtain ⟨m, hm, rfl, rfl, rfl⟩ := hrel
    by_cases h0 : m = 0
    · subst h0
      have hw := hx (wrd_0 s.bits)
      have g1 : decide ((0 : Int) ≤ ((0 : Nat) : Int) - 1) = false := by decide
      go_wp2
      go_ret
      exact ⟨by simp only [hw.out]; rfl, hk.out⟩
    · obtain ⟨k, rfl⟩ : ∃ k, m = k + 1 := ⟨m - 1, by omega⟩
      have hst := hx (wrd_step s.bits k)
      have hlt := wrd_lt s.bits (k + 1) HBB.out (by omega)
      have hk0 : (0 : Int) ≤ (k : Int) := by omega
      have e1 : ((k + 1 : Nat) : Int) - 1 = (k : Int) := by omega
      have hk64 : (k : Int) < 64 := by omega
      have ck := HB.out.cell (rsc_mark s k (by omega))
      generalize wrd s.bits (k + 1) = x at *
      have HL := hx hlt
      have hx2 : (x : Int) * 2 % 18446744073709551616 = (x : Int) * 2 := by omega
      rw [e1]
      clear h0 e1
      cases hbit : s.bits.testBit k
      · have hv := hx (show ((x : Int) * 2) = ((wrd s.bits k : Nat) : Int) by rw [hst.out, hbit]; simp; omega)
        rw [hbit] at ck
        go_wp2
        go_roundw
        case rel => exact ⟨k, by omega, by go_num, by rw [← hv.out], trivial⟩
        case measure => simp [intOf] <;> omega
      · have hv := hx (show ((x : Int) * 2 + 1) = ((wrd s.bits k : Nat) : Int) by rw [hst.out, hbit]; simp; omega)
        have hx3 : ((x : Int) * 2 + 1) % 18446744073709551616 = (x : Int) * 2 + 1 := by omega
        rw [hbit] at ck
        go_wp2
        go_roundw
        case rel => exact ⟨k, by omega, by go_num, by rw [← hv.out], trivial⟩
        case measure => simp [intOf] <;> omega
end Go.Proofs.Ythkjllphefnphaa
