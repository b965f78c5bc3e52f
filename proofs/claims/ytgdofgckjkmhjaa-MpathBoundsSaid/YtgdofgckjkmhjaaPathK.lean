import Derived.Test.YtgdofgckjkmhjaaPathM
namespace Go.Proofs.Ytgdofgckjkmhjaa
open Go Go.RowKit
theorem or_bit {m k : Nat} (hm : m < 18446744073709551616) (hk : k < 64) : bits .or .u64 (m : Int) (IntKind.u64.wrap ((2 : Int) ^ k)) = ((setB m k : Nat) : Int) := by
  have h2 : 2 ^ k < 18446744073709551616 := (Nat.pow_lt_pow_right (by omega) hk : 2 ^ k < 2 ^ 64)
  have e : IntKind.u64.wrap ((2 : Int) ^ k) = ((2 ^ k : Nat) : Int) := by
    have hc : ((2 : Int) ^ k) = ((2 ^ k : Nat) : Int) := by rw [Int.natCast_pow]; rfl
    rw [hc, IntKind.wrap_u64]
    generalize 2 ^ k = y at h2
    omega
  rw [e]
  exact u64_or_nat m (2 ^ k) hm h2
theorem zeroSn (w : World) : (zeroValue 59).run Try.prog w = .ok (.agg #[.bool false, .int .u32 0, .int .u64 0, .int .i64 0, .int .i64 0, .int .i64 0]) w := by kernel_rfl
theorem infoSn : (Try.prog.info? 59).map (·.size) = some 6 := by kernel_rfl
set_option maxHeartbeats 1600000 in
theorem take_new (b o n : Nat) (xs : List Value) (T : TypeId) (s : Sn) (w : World) (hb : Blk w b xs T) (hp : Part xs o (snc s)) (ha : s.any = false) :
    Calls Try.prog 36 #[.pointer (some ⟨b, o, none⟩), .int .u32 n] w fun e w' => e = .returned (.int .i64 (takeN s n).2) ∧ Blk w' b (setAll xs o (snc (takeN s n).1)) T ∧ Kept [b] w w' := by
  have hz := zeroSn
  have hb' : Blk w b (setAll xs o (snc s)) T := by rw [hp.self]; exact hb
  have c0 := hb.part hp 0 (.bool false) (by simp [snc, ha])
  rw [Nat.add_zero] at c0
  have c1 := hb.part hp 1 _ rfl
  have c2 := hb.part hp 2 _ rfl
  have c3 := hb.part hp 3 _ rfl
  have c4 := hb.part hp 4 _ rfl
  have c5 := hb.part hp 5 _ rfl
  have hf := hb.free
  have z1 := Lib.hid (show (takeN s n).1 = ⟨true, n, 1, 1, 0, 0⟩ by unfold takeN; rw [if_pos ha])
  have z2 := Lib.hid (show (takeN s n).2 = 0 by unfold takeN; rw [if_pos ha])
  have e0 := hb'.setp hp rfl 0 (.bool true) (by simp [snc])
  have e1 := e0.setp hp (by simp) 1 (.int .u32 n) (by simp [snc])
  have e2 := e1.setp hp (by simp) 2 (.int .u64 1) (by simp [snc])
  have e3 := e2.setp hp (by simp) 3 (.int .i64 1) (by simp [snc])
  have e4 := e3.setp hp (by simp) 4 (.int .i64 0) (by simp [snc])
  have e5 := e4.setp hp (by simp) 5 (.int .i64 0) (by simp [snc])
  have E := Lib.hid e5
  have K := Lib.hid (((((((Kept.refl [b] w).setCell (p := ⟨b, o, none⟩) (.inl (by simp)) (.bool true)).setCell (p := ⟨b, o + 1, none⟩) (.inl (by simp)) (.int .u32 n)).setCell (p := ⟨b, o + 2, none⟩) (.inl (by simp)) (.int .u64 1)).setCell (p := ⟨b, o + 3, none⟩) (.inl (by simp)) (.int .i64 1)).setCell (p := ⟨b, o + 4, none⟩) (.inl (by simp)) (.int .i64 0)).setCell (p := ⟨b, o + 5, none⟩) (.inl (by simp)) (.int .i64 0))
  clear hb hp hb' ha e0 e1 e2 e3 e4 e5
  go_enter Try.func36, Try.ntmps36
  go_wp2
  go_ret
  exact ⟨by rw [z2.out]; rfl, by rw [z1.out]; exact E.out, K.out⟩
set_option maxHeartbeats 1600000 in
theorem take_old (b o n : Nat) (xs : List Value) (T : TypeId) (s : Sn) (w : World) (hb : Blk w b xs T) (hp : Part xs o (snc s)) (ha : s.any = true) (ht : s.top < 4294967296) (hn : n < 4294967296) (hbt : s.bits < 18446744073709551616) (h1 : ¬ 0 < behI n s.top) (hc0 : 0 ≤ s.came) (hc1 : s.came ≤ 1000000) (ht0 : 0 ≤ s.twice) (ht1 : s.twice ≤ 1000000) :
    Calls Try.prog 36 #[.pointer (some ⟨b, o, none⟩), .int .u32 n] w fun e w' => e = .returned (.int .i64 (takeN s n).2) ∧ Blk w' b (setAll xs o (snc (takeN s n).1)) T ∧ Kept [b] w w' := by
  have hb' : Blk w b (setAll xs o (snc s)) T := by rw [hp.self]; exact hb
  have c0 := hb.part hp 0 (.bool true) (by simp [snc, ha])
  rw [Nat.add_zero] at c0
  have c1 := hb.part hp 1 _ rfl
  have c2 := hb.part hp 2 _ rfl
  have c3 := hb.part hp 3 _ rfl
  have c4 := hb.part hp 4 _ rfl
  have hf := hb.free
  have HBeh := Lib.hid (fun w => behind_any n s.top w hn ht)
  have hbd := behI_bd n s.top hn ht
  by_cases h2 : behI n s.top ≤ -64
  · have z := Lib.hid (show takeN s n = (s, 90) by unfold takeN; rw [if_neg (by simp [ha]), if_neg h1, if_pos h2])
    have HB := Lib.hid hb'
    generalize behI n s.top = y at *
    have g1 : decide (0 < y) = false := by simp <;> omega
    have g2 : decide (y ≤ -64) = true := by simp <;> omega
    clear hb hp hb' ha hbd h1 h2 hbt ht hn
    go_enter Try.func36, Try.ntmps36
    go_wp2_with fail
    refine (HBeh.out _).mono ?_
    rintro e w1 ⟨rfl, rfl⟩
    go_wp2
    go_ret
    exact ⟨by rw [z.out]; rfl, by rw [z.out]; exact HB.out, Kept.refl _ _⟩
  · obtain ⟨k, hk⟩ : ∃ k : Nat, behI n s.top = -(k : Int) := ⟨(-(behI n s.top)).toNat, by omega⟩
    have hk64 : k < 64 := by omega
    have hkn : (-(behI n s.top)).toNat = k := by omega
    rw [hk] at HBeh
    have g1 : decide (0 < -(k : Int)) = false := by simp <;> omega
    have g2 : decide (-(k : Int) ≤ -64) = false := by simp <;> omega
    have g3 : (k : Int) < 64 := by omega
    cases hbit : s.bits.testBit k
    · have z := Lib.hid (show takeN s n = ({ s with bits := setB s.bits k, came := s.came + 1 }, 0) by unfold takeN; rw [if_neg (by simp [ha]), if_neg h1, if_neg h2, hkn, if_neg (by simp [hbit])])
      have hb0 : (bits .and .u64 ((s.bits : Int) / 2 ^ k) 1 == 1) = false := by rw [and64_bit hbt, hbit]; rfl
      have e1 := hb'.setp hp rfl 2 (.int .u64 (setB s.bits k : Nat)) (by simp [snc])
      have e2 := e1.setp hp (by simp) 3 (.int .i64 (s.came + 1)) (by simp [snc])
      have E := Lib.hid e2
      have K := Lib.hid (((Kept.refl [b] w).setCell (p := ⟨b, o + 2, none⟩) (.inl (by simp)) (.int .u64 (setB s.bits k : Nat))).setCell (p := ⟨b, o + 3, none⟩) (.inl (by simp)) (.int .i64 (s.came + 1)))
      have HW := Lib.hid hbt
      clear hb hp hb' ha hbd h1 h2 ht hn hkn hk hbit hbt e1 e2
      go_enter Try.func36, Try.ntmps36
      go_wp2_with fail
      refine (HBeh.out _).mono ?_
      rintro e w1 ⟨rfl, rfl⟩
      go_wp2
      go_region
      go_wp2
      go_ret
      rw [or_bit HW.out hk64]
      exact ⟨by rw [z.out]; rfl, by rw [z.out]; exact E.out.drew, K.out.drew⟩
    · have z := Lib.hid (show takeN s n = ({ s with twice := s.twice + 1 }, 171) by unfold takeN; rw [if_neg (by simp [ha]), if_neg h1, if_neg h2, hkn, if_pos hbit])
      have hb0 : (bits .and .u64 ((s.bits : Int) / 2 ^ k) 1 == 1) = true := by rw [and64_bit hbt, hbit]; rfl
      have e1 := hb'.setp hp rfl 4 (.int .i64 (s.twice + 1)) (by simp [snc])
      have E := Lib.hid e1
      have K := Lib.hid ((Kept.refl [b] w).setCell (p := ⟨b, o + 4, none⟩) (.inl (by simp)) (.int .i64 (s.twice + 1)))
      clear hb hp hb' ha hbd h1 h2 ht hn hkn hk hbit hbt e1
      go_enter Try.func36, Try.ntmps36
      go_wp2_with fail
      refine (HBeh.out _).mono ?_
      rintro e w1 ⟨rfl, rfl⟩
      go_wp2
      go_ret
      exact ⟨by rw [z.out]; rfl, by rw [z.out]; exact E.out, K.out⟩
end Go.Proofs.Ytgdofgckjkmhjaa
