import Derived.Test.YtcjakhlalmlklaaCrcL
namespace Go.Proofs.Ytcjakhlalmlklaa
open Go.RowKit
theorem lob_eq (b : UInt8) (n : Nat) : b = lob n ↔ b.toNat = n % 256 := by
  rw [← UInt8.toNat_inj, lob_nat]
theorem le4_beg (s0 s1 s2 s3 : UInt8) (m : Nat) (hm : m < 4294967296) : [s0, s1, s2, s3] = le4 m ↔ beg [s3, s2, s1, s0] = m := by
  have h0 := s0.toNat_lt
  have h1 := s1.toNat_lt
  have h2 := s2.toNat_lt
  have h3 := s3.toNat_lt
  simp only [le4, List.cons.injEq, and_true, lob_eq, beg, List.foldl_cons, List.foldl_nil]
  omega
theorem split4 (l : List UInt8) (h : 4 ≤ l.length) : ∃ (o : List UInt8) (s0 s1 s2 s3 : UInt8), l = o ++ [s0, s1, s2, s3] := by
  refine ⟨l.take (l.length - 4), ?_⟩
  have hd : (l.drop (l.length - 4)).length = 4 := by simp; omega
  match hx : l.drop (l.length - 4), hd with
  | [a, b, c, d], _ => exact ⟨a, b, c, d, by rw [← hx, List.take_append_drop]⟩
theorem bts_nil (w : World) : Bts w none 0 0 [] := ⟨rfl, Nat.le_refl _, Nat.zero_le _, fun _ => rfl, fun i hi => by simp at hi⟩
set_option maxRecDepth 100000 in
set_option maxHeartbeats 800000 in
theorem law_opens (a : Option Addr) (n c : Nat) (l : List UInt8) (w : World) (hl : Bts w a n c l) :
    Calls Try.prog 4 #[.slice a n c] w fun e w' => e = .returned (.bool true) ∧ Kept [] w w' := by
  by_cases hbig : n > 2000
  · have hbi : (2000 : Int) < (n : Int) := by omega
    go_enter Try.func4, Try.ntmps4
    go_wp2_with fail
    refine (awake_any _).mono ?_
    rintro e w1 ⟨rfl, hk⟩
    go_wp2
    go_ret
    exact ⟨rfl, hk⟩
  · have hbi : ¬ (2000 : Int) < (n : Int) := by omega
    have hn := hl.hlen
    have hn' := Lib.hid hn
    clear hn hbig
    by_cases h4 : l.length < 4
    · go_enter Try.func4, Try.ntmps4
      go_wp2_with fail
      refine (awake_any _).mono ?_
      rintro e w1 ⟨rfl, hk1⟩
      go_wp2_with fail
      refine (new_any _).mono ?_
      rintro e w2 ⟨rfl, hb2, hk2⟩
      have hk := hk1.trans0 hk2
      have hl2 := hl.kept hk
      go_wp2_with fail
      refine (open_short _ _ _ _ l _ hl2 h4).mono ?_
      rintro e w3 ⟨rfl, rfl⟩
      go_wp2_with fail
      refine (ropen_short _ _ _ l _ hl2 h4).mono ?_
      rintro e w3 ⟨rfl, rfl⟩
      go_wp2_with fail
      refine (same_any _ _ _ _ _ _ [] [] _ (bts_nil _) (bts_nil _)).mono ?_
      rintro e w3 ⟨rfl, k, rfl⟩
      go_wp2
      go_ret
      exact ⟨rfl, hk.drewN k⟩
    · obtain ⟨o, s0, s1, s2, s3, rfl⟩ := split4 l (by omega)
      obtain ⟨m, hm, hm2⟩ : ∃ m, o.length = m ∧ n = m + 4 := ⟨_, rfl, by have := hn'.out; simp at this; omega⟩
      subst hm2
      have hmm := Lib.hid hm
      clear hm h4
      by_cases hg : beg [s3, s2, s1, s0] = mor 0 o
      · have hd := Lib.hid (decide_eq_true ((le4_beg s0 s1 s2 s3 _ (mor_lt 0 o)).2 hg))
        have hgg := Lib.hid hg
        clear hg
        go_enter Try.func4, Try.ntmps4
        go_wp2_with fail
        refine (awake_any _).mono ?_
        rintro e w1 ⟨rfl, hk1⟩
        go_wp2_with fail
        refine (new_any _).mono ?_
        rintro e w2 ⟨rfl, hb2, hk2⟩
        have hk := hk1.trans0 hk2
        have hl2 := hl.kept hk
        go_wp2_with fail
        refine (open_good _ _ m _ o s0 s1 s2 s3 _ hl2 hmm.out (by omega) hb2 hgg.out).mono ?_
        rintro e w3 ⟨v, rfl, hown, hk3⟩
        obtain ⟨a1, c1, hv, hb⟩ := Bts.own hown
        subst hv
        have hk03 := hk.trans0 hk3
        have hl3 := hl.kept hk03
        go_wp2_with fail
        refine (ropen_any _ m _ o [s0, s1, s2, s3] _ hl3 hmm.out rfl (by omega)).mono ?_
        rintro e w4 ⟨he, hk4⟩
        rw [hd.out] at he
        subst he
        unfold ropV
        go_wp2_with fail
        have hl4 := (hl.kept (hk03.trans0 hk4)).take m (by simp; have := hmm.out; omega)
        rw [List.take_left' hmm.out] at hl4
        refine (same_any _ _ _ _ _ _ o o _ (hb.kept hk4) hl4).mono ?_
        rintro e w3 ⟨he, k, rfl⟩
        rw [decide_eq_true rfl] at he
        subst he
        go_wp2
        go_ret
        exact ⟨rfl, (hk03.trans0 hk4).drewN k⟩
      · have hd := Lib.hid (decide_eq_false (fun h => hg ((le4_beg s0 s1 s2 s3 _ (mor_lt 0 o)).1 h)))
        have hgg := Lib.hid hg
        clear hg
        go_enter Try.func4, Try.ntmps4
        go_wp2_with fail
        refine (awake_any _).mono ?_
        rintro e w1 ⟨rfl, hk1⟩
        go_wp2_with fail
        refine (new_any _).mono ?_
        rintro e w2 ⟨rfl, hb2, hk2⟩
        have hk := hk1.trans0 hk2
        have hl2 := hl.kept hk
        go_wp2_with fail
        refine (open_bad _ _ m _ o s0 s1 s2 s3 _ hl2 hmm.out (by omega) hb2 hgg.out).mono ?_
        rintro e w3 ⟨rfl, hk3⟩
        have hk03 := hk.trans0 hk3
        have hl3 := hl.kept hk03
        go_wp2_with fail
        refine (ropen_any _ m _ o [s0, s1, s2, s3] _ hl3 hmm.out rfl (by omega)).mono ?_
        rintro e w4 ⟨he, hk4⟩
        rw [hd.out] at he
        subst he
        unfold ropV
        go_wp2_with fail
        refine (same_any _ _ _ _ _ _ [] [] _ (bts_nil _) (bts_nil _)).mono ?_
        rintro e w3 ⟨rfl, k, rfl⟩
        go_wp2
        go_ret
        exact ⟨rfl, (hk03.trans0 hk4).drewN k⟩
end Go.Proofs.Ytcjakhlalmlklaa
