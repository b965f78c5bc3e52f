import Derived.Test.YtcjakhlalmlklaaCrcU
namespace Go.Proofs.Ytcjakhlalmlklaa
open Go.RowKit
theorem mor_nil : mor 0 [] = 0 := rfl
theorem join_gen (a b n : Nat) (ha : a < 4294967296) (hb : b < 4294967296) (h0 : n = 0 → b = 0) (hn : n < 9223372036854775808) (w : World) :
    Calls Try.prog 21 #[.int .u32 a, .int .u32 b, .int .i64 n] w fun e w' => e = .returned (.int .u32 (ones (8 * n) a ^^^ b : Nat)) ∧ Kept [] w w' := by
  by_cases h : n = 0
  · obtain rfl := h0 h
    subst h
    refine (join_nil a 0 ((0 : Nat) : Int) (by omega) w).mono ?_
    rintro e w' ⟨rfl, rfl⟩
    exact ⟨by rw [Nat.mul_zero, Nat.xor_zero]; rfl, Kept.refl _ _⟩
  · exact join_any a b n ha hb (by omega) hn w
set_option maxRecDepth 100000 in
set_option maxHeartbeats 1000000 in
theorem law_joins (a : Option Addr) (n c : Nat) (b : Option Addr) (m d : Nat) (l r : List UInt8) (w : World) (hl : Bts w a n c l) (hr : Bts w b m d r) :
    Calls Try.prog 7 #[.slice a n c, .slice b m d] w fun e w' => e = .returned (.bool true) ∧ Kept [] w w' := by
  by_cases hbig : n > 1000
  · have hbi : (1000 : Int) < (n : Int) := by omega
    go_enter Try.func7, Try.ntmps7
    go_wp2_with fail
    refine (awake_any _).mono ?_
    rintro e w1 ⟨rfl, hk⟩
    go_wp2
    go_ret
    exact ⟨rfl, hk⟩
  have hbi : ¬ (1000 : Int) < (n : Int) := by omega
  have hbi' : decide ((1000 : Int) < (n : Int)) = false := by simp; omega
  by_cases hbig2 : m > 1000
  · have hbi2 : (1000 : Int) < (m : Int) := by omega
    go_enter Try.func7, Try.ntmps7
    go_wp2_with fail
    refine (awake_any _).mono ?_
    rintro e w1 ⟨rfl, hk⟩
    go_wp2
    go_ret
    exact ⟨rfl, hk⟩
  · have hbi2 : ¬ (1000 : Int) < (m : Int) := by omega
    have hn' := Lib.hid hl.hlen
    have hm' := Lib.hid hr.hlen
    have hj := Lib.hid (mor_join l r)
    have ha := Lib.hid (mor_app l r)
    go_enter Try.func7, Try.ntmps7
    go_wp2_with fail
    refine (awake_any _).mono ?_
    rintro e w1 ⟨rfl, hk1⟩
    go_wp2_with fail
    refine (new_any _).mono ?_
    rintro e w2 ⟨rfl, hb2, hk2⟩
    have hk := hk1.trans0 hk2
    have hl2 := hl.kept hk
    have hr2 := hr.kept hk
    have hlt2 := hb2.lt
    go_wp2_with (at_builtin; refine wpList_app8 rfl (.tmp 18) (.tmp 19) rfl w2.heap.size (.slice (some ⟨w2.heap.size, 0, none⟩) 0 0) 0 [] rfl ?_ a n c l rfl ?_ ?_ ?_ ?_)
    · exact own_empty (w := w2) rfl (Nat.le_refl _)
    · exact hl2.kept ((Kept.refl _ _).alloc _)
    · omega
    · simp
    · intro v1 w3 hown hgr
      have hk3 : Kept [] w2 w3 := Kept.grown ((Kept.refl _ _).alloc _) hgr (by rintro k hk; right; simp [Value.ownBlock] at hk; omega)
      have hk03 := hk.trans0 hk3
      have hs3 := hk3.size
      have hown' : w3.ownsRow w2.heap.size 5 1 v1 n (l.map bv) := by simpa using hown
      clear hown
      go_wp2_with (at_builtin; refine wpList_app8 rfl (.tmp 20) (.tmp 21) rfl w2.heap.size v1 n l rfl hown' b m d r rfl ?_ ?_ ?_ ?_)
      · exact hr.kept hk03
      · omega
      · exact hs3
      · intro v2 w4 hown2 hgr2
        have hk4 : Kept [] w2 w4 := Kept.grown hk3 hgr2 (by rintro k hk; right; exact (hown'.lt k hk).1)
        have hk04 := hk.trans0 hk4
        rw [← List.map_append] at hown2
        obtain ⟨a1, c1, hv, hb⟩ := Bts.own hown2
        subst hv
        have hb4 := hk4.blk hb2 (by simp)
        have hl4 := hl.kept hk04
        have hr4 := hr.kept hk04
        go_wp2_with fail
        refine (sum_any _ _ _ _ l _ hl4 hb4).mono ?_
        rintro e w5 ⟨rfl, rfl⟩
        go_wp2_with fail
        refine (sum_any _ _ _ _ r _ hr4 hb4).mono ?_
        rintro e w5 ⟨rfl, rfl⟩
        go_wp2_with fail
        refine (join_gen (mor 0 l) (mor 0 r) m (mor_lt _ _) (mor_lt _ _) (fun h => by rw [show r = [] from List.eq_nil_of_length_eq_zero (by have := hm'.out; omega)]; rfl) (by omega) _).mono ?_
        rintro e w5 ⟨rfl, hk5⟩
        have hb5 := hk5.blk hb4 (by simp)
        have hl5 := hl4.kept hk5
        have hr5 := hr4.kept hk5
        have hbb := hb.kept hk5
        rw [hm'.out, ← hj.out]
        go_wp2_with fail
        refine (sum_any _ _ _ _ (l ++ r) _ (by rw [hm'.out] at hbb; exact hbb) hb5).mono ?_
        rintro e w6 ⟨rfl, rfl⟩
        go_wp2_with fail
        refine (sum_any _ _ _ _ l _ hl5 hb5).mono ?_
        rintro e w6 ⟨rfl, rfl⟩
        go_wp2_with fail
        refine (more_any _ (mor 0 l) _ _ _ r _ (mor_lt _ _) (by rw [hm'.out] at hr5; exact hr5) hb5).mono ?_
        rintro e w6 ⟨rfl, rfl⟩
        rw [← ha.out]
        go_wp2_with fail
        refine (sum_any _ _ _ _ (l ++ r) _ (by rw [hm'.out] at hbb; exact hbb) hb5).mono ?_
        rintro e w6 ⟨rfl, rfl⟩
        go_wp2
        go_ret
        exact ⟨rfl, hk04.trans0 hk5⟩
end Go.Proofs.Ytcjakhlalmlklaa
