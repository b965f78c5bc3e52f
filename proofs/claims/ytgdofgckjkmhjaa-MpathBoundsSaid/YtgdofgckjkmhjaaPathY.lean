import Derived.Test.YtgdofgckjkmhjaaPathX
namespace Go.Proofs.Ytgdofgckjkmhjaa
open Go Go.RowKit
theorem take_code (s : Sn) (n : Nat) : (takeN s n).2 = 0 ∨ (takeN s n).2 = 90 ∨ (takeN s n).2 = 171 := by
  unfold takeN
  repeat' split
  all_goals simp
theorem pac_st {xs : List Value} {o : Nat} {p : Pa} (h : Part xs o (pac p)) : Part xs (o + 0) (stc p.s) := pac_s h
theorem pac_twice {xs : List Value} {o : Nat} {p : Pa} (h : Part xs o (pac p)) (p1 p2 : Pa) : setAll (setAll xs o (pac p1)) o (pac p2) = setAll xs o (pac p2) := setAll_twice h.1 rfl
set_option maxHeartbeats 1600000 in
theorem heard_any (b o n : Nat) (xs : List Value) (T : TypeId) (p : Pa) (w : World) (hb : Blk w b xs T) (hp : Part xs o (pac p)) (hs : StOk p.s 900000) (hsn : SnOk p.seen 100) (hn : n < 4294967296) :
    Calls Try.prog 25 #[.pointer (some ⟨b, o, none⟩), .int .u32 n] w fun e w' => e = .returned (.int .i64 (heardP p n).2) ∧ Blk w' b (setAll xs o (pac (heardP p n).1)) T ∧ Kept [b] w w' := by
  have c5 := hb.part (pac_seen hp) 0 (.bool p.seen.any) rfl
  have c10 := hb.part (pac_seen hp) 5 (.int .i64 p.seen.lost) rfl
  have hf := hb.free
  have HS := hx (fun w1 (h : Blk w1 b xs T) => stake_any b (o + 5) n xs T p.seen w1 h (pac_seen hp) hsn hn)
  have HB := hx hb
  have HSE := hx (fun s => pac_set_seen hp s)
  have HP := hx hp
  have HTW := hx (fun p1 p2 => pac_twice hp p1 p2)
  have hcode := take_code p.seen n
  obtain ⟨c, hc⟩ : ∃ c, c = (takeN p.seen n).2 := ⟨_, rfl⟩
  obtain ⟨s', hs'⟩ : ∃ s', s' = (takeN p.seen n).1 := ⟨_, rfl⟩
  have hok := take_ok p.seen n 100 hsn hn (by omega)
  rw [← hc] at HS hcode
  rw [← hs'] at HS hok
  have HC := hx hc
  have HS' := hx hs'
  have HOK := hx (And.intro hs (And.intro hsn hok))
  clear hb hp hc hs' hok hs hsn
  go_enter Try.func25, Try.ntmps25
  rw [Nat.add_zero] at c5
  go_upto_region 1 with fail
  go_region
  trace "R"
  go_wp2_with fail
  refine (HS.out _ HB.out.drew).mono ?_
  rintro e w2 ⟨rfl, hb2, hk2⟩
  clear c5 c10 hf HS HB
  rw [HSE.out] at hb2
  have hk2 : Kept [b] w w2 := (Kept.refl _ _).drew.trans1 hk2
  have hp2 : Part (setAll xs o (pac { p with seen := s' })) o (pac { p with seen := s' }) := HP.out.setAll _ rfl
  have c11 := hb2.part hp2 11 _ rfl
  have c12 := hb2.part hp2 12 _ rfl
  have c13 := hb2.part hp2 13 _ rfl
  have hf := hb2.free
  have e3 : Blk _ b (setAll xs o (pac ⟨p.s, s', 0, 0, 0, p.next⟩)) T := ((Blk.pquiet (s := p.s) (sn := s') (q := p.quiet) (r := p.probe) (g := p.gap) (n := p.next) hb2 HP.out 0).pprobe HP.out 0).pgap HP.out 0
  have E3 := hx e3
  have K3 := hx (((hk2.setCell (p := ⟨b, o + 11, none⟩) (.inl (by simp)) (.int .i64 0)).setCell (p := ⟨b, o + 12, none⟩) (.inl (by simp)) (.int .i64 0)).setCell (p := ⟨b, o + 13, none⟩) (.inl (by simp)) (.int .i64 0))
  clear e3 hb2 hp2 hk2
  go_upto_region 4 with fail
  generalize ((w2.setCell ⟨b, o + 11, none⟩ (.int .i64 0)).setCell ⟨b, o + 12, none⟩ (.int .i64 0)).setCell ⟨b, o + 13, none⟩ (.int .i64 0) = W3 at *
  clear c11 c12 c13 hf
  by_cases h0 : c = 0
  · have z := hx (show heardP p n = (⟨markS (markK p.s (newLost p.seen n)) false, s', 0, 0, 0, p.next⟩, 0) by unfold heardP; rw [if_pos (by rw [← HC.out]; exact h0), HS'.out])
    have hb3 := E3.out
    have hp3 : Part (setAll xs o (pac ⟨p.s, s', 0, 0, 0, p.next⟩)) o (pac ⟨p.s, s', 0, 0, 0, p.next⟩) := HP.out.setAll _ rfl
    have c10 := hb3.part (pac_seen hp3) 5 (.int .i64 s'.lost) rfl
    have l1 : 0 ≤ p.seen.lost := HOK.out.2.1.lost.1
    have l2 : p.seen.lost.toNat ≤ 1000000000000 := by have := HOK.out.2.1.lost.2; omega
    have l3 : 0 ≤ s'.lost := HOK.out.2.2.lost.1
    have l4 : s'.lost.toNat ≤ 1000000000000 := by have := HOK.out.2.2.lost.2; omega
    have HA := hx (show p.seen.any = false → s'.lost = 0 by intro h; rw [HS'.out]; unfold takeN; rw [if_pos h])
    have HB2 := hx (show p.seen.any = true → p.seen.lost ≤ s'.lost by intro h; rw [HS'.out]; exact lost_le _ _ h)
    have HNL := hx (show newLost p.seen n = if p.seen.any then (min (s'.lost - p.seen.lost) 64).toNat else 0 by rw [HS'.out]; rfl)
    clear hb3 hp3 hcode
    subst h0
    by_cases h64 : 64 < s'.lost - p.seen.lost
    · obtain ⟨R, hR⟩ : ∃ R : Int, R = 64 := ⟨_, rfl⟩
      have HR2 := hx (show p.seen.any = true → R = (newLost p.seen n : Nat) by intro h; rw [HNL.out, if_pos h]; omega)
      have HR3 := hx (show R ≤ (newLost p.seen n : Nat) by
        cases h : p.seen.any
        · have := HA.out h; omega
        · have := HR2.out h; omega)
      have HN := hx hR
      clear hR
      go_wp2
      rw [← HN.out]
      go_loopw [43] (fun iv wr => ∃ i : Nat, i ≤ newLost p.seen n ∧ iv = .int .i64 i ∧ Blk wr b (setAll xs o (pac ⟨markK p.s i, s', 0, 0, 0, p.next⟩)) T ∧ Kept [b] w wr) (fun iv _ => newLost p.seen n - (intOf iv).toNat)
      case atStart => exact ⟨0, by omega, rfl, E3.out, K3.out⟩
      case round =>
        clear E3 K3 HN
        obtain ⟨i, hi, rfl, hbr, hkr⟩ := hrel
        have hpr : Part (setAll xs o (pac ⟨markK p.s i, s', 0, 0, 0, p.next⟩)) o (pac ⟨markK p.s i, s', 0, 0, 0, p.next⟩) := HP.out.setAll _ rfl
        have hl64 := newLost_le p.seen n
        have hmk : StOk (markK p.s i) 1000000 := (markK_ok p.s i _ HOK.out.1).mono (by omega)
        have HM := hx (fun m => mark_any b o _ T (markK p.s i) m wr hbr (pac_s hpr) hmk)
        have HSS := hx (fun s => pac_set_s hpr s)
        have HKR := hx hkr
        by_cases hlt : i < newLost p.seen n
        · have hany : p.seen.any = true := by
            cases h : p.seen.any
            · exfalso; unfold newLost at hlt; rw [h] at hlt; simp at hlt
            · rfl
          have hiR : (i : Int) < R := by have := HR2.out hany; omega
          rw [hany]
          go_wp2_with fail
          refine (HM.out true).mono ?_
          rintro e w5 ⟨rfl, hb5, hk5⟩
          rw [HSS.out] at hb5
          rw [HTW.out] at hb5
          have hk6 := hx (HKR.out.trans1 hk5)
          have hb6 := hx hb5
          clear hk5 hb5
          go_wp2
          go_roundw
          case rel => exact ⟨i + 1, by omega, by go_num, hb6.out, hk6.out⟩
          case measure => simp [intOf] <;> omega
        · obtain rfl : i = newLost p.seen n := by omega
          have hiR : ¬ (((newLost p.seen n : Nat) : Int) < R) := by have := HR3.out; omega
          go_wp2_with fail
          refine (HM.out false).mono ?_
          rintro e w5 ⟨rfl, hb5, hk5⟩
          rw [HSS.out] at hb5
          rw [HTW.out] at hb5
          have hk6 := hx (HKR.out.trans1 hk5)
          have hb6 := hx hb5
          clear hk5 hb5
          go_wp2
          go_ret
          exact ⟨by rw [z.out]; rfl, by rw [z.out]; exact hb6.out, hk6.out⟩
    · obtain ⟨R, hR⟩ : ∃ R : Int, R = s'.lost - p.seen.lost := ⟨_, rfl⟩
      have HR2 := hx (show p.seen.any = true → R = (newLost p.seen n : Nat) by intro h; rw [HNL.out, if_pos h]; have := HB2.out h; omega)
      have HR3 := hx (show R ≤ (newLost p.seen n : Nat) by
        cases h : p.seen.any
        · have := HA.out h; omega
        · have := HR2.out h; omega)
      have HN := hx hR
      clear hR
      go_wp2
      rw [← HN.out]
      go_loopw [43] (fun iv wr => ∃ i : Nat, i ≤ newLost p.seen n ∧ iv = .int .i64 i ∧ Blk wr b (setAll xs o (pac ⟨markK p.s i, s', 0, 0, 0, p.next⟩)) T ∧ Kept [b] w wr) (fun iv _ => newLost p.seen n - (intOf iv).toNat)
      case atStart => exact ⟨0, by omega, rfl, E3.out, K3.out⟩
      case round =>
        clear E3 K3 HN
        obtain ⟨i, hi, rfl, hbr, hkr⟩ := hrel
        have hpr : Part (setAll xs o (pac ⟨markK p.s i, s', 0, 0, 0, p.next⟩)) o (pac ⟨markK p.s i, s', 0, 0, 0, p.next⟩) := HP.out.setAll _ rfl
        have hl64 := newLost_le p.seen n
        have hmk : StOk (markK p.s i) 1000000 := (markK_ok p.s i _ HOK.out.1).mono (by omega)
        have HM := hx (fun m => mark_any b o _ T (markK p.s i) m wr hbr (pac_s hpr) hmk)
        have HSS := hx (fun s => pac_set_s hpr s)
        have HKR := hx hkr
        by_cases hlt : i < newLost p.seen n
        · have hany : p.seen.any = true := by
            cases h : p.seen.any
            · exfalso; unfold newLost at hlt; rw [h] at hlt; simp at hlt
            · rfl
          have hiR : (i : Int) < R := by have := HR2.out hany; omega
          rw [hany]
          go_wp2_with fail
          refine (HM.out true).mono ?_
          rintro e w5 ⟨rfl, hb5, hk5⟩
          rw [HSS.out] at hb5
          rw [HTW.out] at hb5
          have hk6 := hx (HKR.out.trans1 hk5)
          have hb6 := hx hb5
          clear hk5 hb5
          go_wp2
          go_roundw
          case rel => exact ⟨i + 1, by omega, by go_num, hb6.out, hk6.out⟩
          case measure => simp [intOf] <;> omega
        · obtain rfl : i = newLost p.seen n := by omega
          have hiR : ¬ (((newLost p.seen n : Nat) : Int) < R) := by have := HR3.out; omega
          go_wp2_with fail
          refine (HM.out false).mono ?_
          rintro e w5 ⟨rfl, hb5, hk5⟩
          rw [HSS.out] at hb5
          rw [HTW.out] at hb5
          have hk6 := hx (HKR.out.trans1 hk5)
          have hb6 := hx hb5
          clear hk5 hb5
          go_wp2
          go_ret
          exact ⟨by rw [z.out]; rfl, by rw [z.out]; exact hb6.out, hk6.out⟩
  · have z := hx (show heardP p n = (⟨p.s, s', 0, 0, 0, p.next⟩, c) by unfold heardP; rw [if_neg (by rw [← HC.out]; exact h0), HS'.out, HC.out])
    have h1 : (c != 0) = true := by simp [bne, h0]
    clear h0
    go_wp2
    go_ret
    exact ⟨by rw [z.out]; rfl, by rw [z.out]; exact E3.out, K3.out⟩
end Go.Proofs.Ytgdofgckjkmhjaa
