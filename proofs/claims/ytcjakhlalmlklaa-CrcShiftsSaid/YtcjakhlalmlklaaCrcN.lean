import Derived.Test.YtcjakhlalmlklaaCrcM
namespace Go.Proofs.Ytcjakhlalmlklaa
open Go.RowKit
theorem beg_le4 (m : Nat) (hm : m < 4294967296) : beg [lob (m / 16777216), lob (m / 65536), lob (m / 256), lob m] = m := (le4_beg _ _ _ _ m hm).1 rfl
set_option maxRecDepth 100000 in
set_option maxHeartbeats 1000000 in
theorem law_seals (a : Option Addr) (n c : Nat) (l : List UInt8) (w : World) (hl : Bts w a n c l) :
    Calls Try.prog 5 #[.slice a n c] w fun e w' => e = .returned (.bool true) ∧ Kept [] w w' := by
  by_cases hbig : n > 2000
  · have hbi : (2000 : Int) < (n : Int) := by omega
    go_enter Try.func5, Try.ntmps5
    go_wp2_with fail
    refine (awake_any _).mono ?_
    rintro e w1 ⟨rfl, hk⟩
    go_wp2
    go_ret
    exact ⟨rfl, hk⟩
  · have hbi : ¬ (2000 : Int) < (n : Int) := by omega
    have hn := hl.hlen
    have hn' := Lib.hid hn
    clear hn
    go_enter Try.func5, Try.ntmps5
    go_wp2_with fail
    refine (awake_any _).mono ?_
    rintro e w1 ⟨rfl, hk1⟩
    go_wp2_with fail
    refine (new_any _).mono ?_
    rintro e w2 ⟨rfl, hb2, hk2⟩
    have hk := hk1.trans0 hk2
    have hl2 := hl.kept hk
    have hlt2 := hb2.lt
    go_wp2_with (at_builtin; refine wpList_app8 rfl (.tmp 14) (.tmp 15) rfl w2.heap.size _ 0 [] rfl ?_ a n c l rfl ?_ ?_ ?_ ?_)
    · exact own_empty (w := w2) rfl (Nat.le_refl _)
    · exact hl2.kept ((Kept.refl _ _).alloc _)
    · omega
    · simp
    · intro v' w3 hown hgr
      have hk3 : Kept [] w2 w3 := Kept.grown ((Kept.refl _ _).alloc _) hgr (by rintro k hk; right; simp [Value.ownBlock] at hk; omega)
      have hk03 := hk.trans0 hk3
      try simp only [Nat.zero_add, List.nil_append] at hown
      obtain ⟨a1, c1, hv, hb⟩ := Bts.own hown
      subst hv
      go_wp2_with fail
      refine (seal_any _ _ _ _ l _ hb (by have := hn'.out; omega) (hk3.blk hb2 (by simp))).mono ?_
      rintro e w4 ⟨v, rfl, hown4, hk4⟩
      obtain ⟨a2, c2, hv, hb4⟩ := Bts.own hown4
      subst hv
      have hk04 := hk03.trans0 hk4
      go_wp2_with fail
      refine (open_good _ _ n _ l (lob (mor 0 l)) (lob (mor 0 l / 256)) (lob (mor 0 l / 65536)) (lob (mor 0 l / 16777216)) _ hb4 hn'.out.symm (by omega) ((hk3.trans0 hk4).blk hb2 (by simp)) (beg_le4 _ (mor_lt 0 l))).mono ?_
      rintro e w5 ⟨v, rfl, hown5, hk5⟩
      obtain ⟨a3, c3, hv, hb5⟩ := Bts.own hown5
      subst hv
      have hk05 := hk04.trans0 hk5
      go_wp2_with fail
      refine (rseal_any _ _ _ l _ (hl.kept hk05) (by have := hn'.out; omega)).mono ?_
      rintro e w6 ⟨v, rfl, hown6, hk6⟩
      obtain ⟨a4, c4, hv, hb6⟩ := Bts.own hown6
      subst hv
      have hk06 := hk05.trans0 hk6
      go_wp2_with fail
      refine (same_any _ _ _ _ _ _ (sealed l) (sealed l) _ (hb4.kept (hk5.trans0 hk6)) hb6).mono ?_
      rintro e w7 ⟨he, k1, rfl⟩
      rw [decide_eq_true rfl] at he
      subst he
      have hk07 := hk06.drewN k1
      go_wp2_with fail
      refine (same_any _ _ _ _ _ _ l l _ (hb5.kept (hk6.drewN k1)) (hl.kept hk07)).mono ?_
      rintro e w8 ⟨he, k2, rfl⟩
      rw [decide_eq_true rfl] at he
      subst he
      go_wp2_with fail
      refine (same_any _ _ _ _ _ _ l l _ ((hb.kept (hk4.trans0 (hk5.trans0 hk6))).drewN _) ((hl.kept hk06).drewN _)).mono ?_
      rintro e w9 ⟨he, k3, rfl⟩
      rw [decide_eq_true rfl] at he
      subst he
      go_wp2
      go_ret
      exact ⟨rfl, hk06.drewN _⟩
end Go.Proofs.Ytcjakhlalmlklaa
