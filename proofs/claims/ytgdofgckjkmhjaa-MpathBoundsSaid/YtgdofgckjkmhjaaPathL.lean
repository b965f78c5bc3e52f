import Derived.Test.YtgdofgckjkmhjaaPathK
namespace Go.Proofs.Ytgdofgckjkmhjaa
open Go Go.RowKit
set_option maxHeartbeats 1600000 in
theorem take_newer (b o n : Nat) (xs : List Value) (T : TypeId) (s : Sn) (w : World) (hb : Blk w b xs T) (hp : Part xs o (snc s)) (ha : s.any = true) (ht : s.top < 4294967296) (hn : n < 4294967296) (hbt : s.bits < 18446744073709551616) (h1 : 0 < behI n s.top) (hc0 : 0 ≤ s.came) (hc1 : s.came ≤ 1000000) (hl0 : 0 ≤ s.lost) (hl1 : s.lost ≤ 1000000000000) :
    Calls Try.prog 36 #[.pointer (some ⟨b, o, none⟩), .int .u32 n] w fun e w' => e = .returned (.int .i64 (takeN s n).2) ∧ Blk w' b (setAll xs o (snc (takeN s n).1)) T ∧ Kept [b] w w' := by
  have c0 := hb.part hp 0 (.bool true) (by simp [snc, ha])
  rw [Nat.add_zero] at c0
  have c1 := hb.part hp 1 _ rfl
  have HBeh := Lib.hid (fun w => behind_any n s.top w hn ht)
  have hbd := behI_bd n s.top hn ht
  obtain ⟨k, hk⟩ : ∃ k : Nat, behI n s.top = (k : Int) := ⟨(behI n s.top).toNat, by omega⟩
  have hk0 : 0 < k := by omega
  have hkb : k ≤ 2147483648 := by omega
  have hkn : (behI n s.top).toNat = k := by omega
  rw [hk] at HBeh
  have g1 : decide (0 < (k : Int)) = true := by simp <;> omega
  have g2 : (0 : Int) < (k : Int) := by omega
  have g3 : decide (0 < k) = true := by simp <;> omega
  have HM := Lib.hid (move_any b o k k xs T s w hb hp rfl hkb hk0 hl0 hl1 hbt)
  have z := Lib.hid (show takeN s n = ({ moveN s k with top := n, bits := setB (moveN s k).bits 0, came := (moveN s k).came + 1 }, 0) by
    unfold takeN
    rw [if_neg (by simp [ha]), if_pos h1, hkn]
    simp only [moveN, ha])
  have hcm : (moveN s k).came = s.came := rfl
  have hb2 : (moveN s k).bits < 18446744073709551616 := shlB_lt _ _
  have hpl := Lib.hid hp
  generalize moveN s k = s2 at *
  have hd0 : 0 ≤ s2.came := by omega
  have hd1 : s2.came ≤ 1000000 := by omega
  have HB2 := Lib.hid hb2
  clear hb hp ha hbd h1 ht hn hkn hk hbt hcm hc0 hc1 hl0 hl1 hb2
  go_enter Try.func36, Try.ntmps36
  go_wp2_with fail
  refine (HBeh.out _).mono ?_
  rintro e w1 ⟨rfl, rfl⟩
  go_wp2_with fail
  refine HM.out.mono ?_
  rintro e w2 ⟨rfl, hb2, hk2⟩
  clear c0 c1
  have hq : Part (setAll xs o (snc s2)) o (snc s2) := hpl.out.setAll _ rfl
  have c1 := hb2.part hq 1 _ rfl
  have c2 := hb2.part hq 2 _ rfl
  have c3 := hb2.part hq 3 _ rfl
  have hf := hb2.free
  have e1 := hb2.setp hpl.out rfl 1 (.int .u32 n) (by simp [snc])
  have e2 := e1.setp hpl.out (by simp [snc]) 2 (.int .u64 (setB s2.bits 0 : Nat)) (by simp [snc])
  have e3 := e2.setp hpl.out (by simp [snc]) 3 (.int .i64 (s2.came + 1)) (by simp [snc])
  have E := Lib.hid e3
  have K := Lib.hid (((hk2.setCell (p := ⟨b, o + 1, none⟩) (.inl (by simp)) (.int .u32 n)).setCell (p := ⟨b, o + 2, none⟩) (.inl (by simp)) (.int .u64 (setB s2.bits 0 : Nat))).setCell (p := ⟨b, o + 3, none⟩) (.inl (by simp)) (.int .i64 (s2.came + 1)))
  clear hb2 hq e1 e2 e3 hk2
  go_wp2
  go_ret
  have hor : bits .or .u64 (s2.bits : Int) 1 = ((setB s2.bits 0 : Nat) : Int) := u64_or_nat s2.bits 1 HB2.out (by omega)
  rw [hor]
  exact ⟨by rw [z.out]; rfl, by rw [z.out]; exact E.out, K.out⟩
theorem stake_any (b o n : Nat) (xs : List Value) (T : TypeId) (s : Sn) (w : World) (hb : Blk w b xs T) (hp : Part xs o (snc s)) (hs : SnOk s 100) (hn : n < 4294967296) :
    Calls Try.prog 36 #[.pointer (some ⟨b, o, none⟩), .int .u32 n] w fun e w' => e = .returned (.int .i64 (takeN s n).2) ∧ Blk w' b (setAll xs o (snc (takeN s n).1)) T ∧ Kept [b] w w' := by
  obtain ⟨h1, h2, h3, h4, h5⟩ := hs
  cases ha : s.any
  · exact take_new b o n xs T s w hb hp ha
  · by_cases h0 : 0 < behI n s.top
    · exact take_newer b o n xs T s w hb hp ha h1 hn h2 h0 h3.1 (by omega) h5.1 (by omega)
    · exact take_old b o n xs T s w hb hp ha h1 hn h2 h0 h3.1 (by omega) h4.1 (by omega)
end Go.Proofs.Ytgdofgckjkmhjaa
