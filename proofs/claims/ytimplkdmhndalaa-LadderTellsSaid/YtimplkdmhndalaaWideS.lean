import Derived.Test.YtimplkdmhndalaaWideP
namespace Go.Proofs.Ytimplkdmhndalaa
open Go Go.RowKit
/-- What Plus gives. -/
def plusB (na : Bool) (A : Nat) (nb : Bool) (B : Nat) : Bool := if na = nb then na else if A < B then nb else na
def plusN (na : Bool) (A : Nat) (nb : Bool) (B : Nat) : Nat := if na = nb then A + B else if A < B then B - A else A - B
theorem plus_val (na : Bool) (A : Nat) (nb : Bool) (B : Nat) : wval (plusB na A nb B) (plusN na A nb B) = wval na A + wval nb B := by
  unfold plusB plusN wval
  cases na <;> cases nb <;> simp <;> (repeat' split) <;> omega
theorem plusN_le (na : Bool) (A : Nat) (nb : Bool) (B : Nat) : plusN na A nb B ≤ A + B := by
  unfold plusN
  split
  · omega
  · split <;> omega
set_option maxRecDepth 100000 in
set_option maxHeartbeats 800000 in
theorem Plus_any (na nb : Bool) (A B : Nat) (hA : A < 65536 ^ 9) (hB : B < 65536 ^ 9) (w : World) :
    Calls Try.prog 43 #[.agg (wide na A).toArray, .agg (wide nb B).toArray] w fun e w' => e = .returned (.agg (wide (plusB na A nb B) (plusN na A nb B)).toArray) ∧ Kept [] w w' := by
  have hz := zeroW
  have hb0 := Blk.new w (wide na A) 83
  have hb1 := Blk.new (w.alloc (.cells (wide na A).toArray 83)) (wide nb B) 83
  have hb2 := Blk.new ((w.alloc (.cells (wide na A).toArray 83)).alloc (.cells (wide nb B).toArray 83)) (wideF false fun _ => 0) 83
  rw [World.size_alloc] at hb1
  rw [World.size_alloc, World.size_alloc] at hb2
  have hk0 : Kept [] w (((w.alloc (.cells (wide na A).toArray 83)).alloc (.cells (wide nb B).toArray 83)).alloc (.cells (wideF false fun _ => 0).toArray 83)) := (((Kept.refl _ _).alloc _).alloc _).alloc _
  have hb0 := (hb0.alloc (.cells (wide nb B).toArray 83)).alloc (.cells (wideF false fun _ => 0).toArray 83)
  have hb1 := hb1.alloc (.cells (wideF false fun _ => 0).toArray 83)
  have c0 := hb0.cell (wideF_0 na (dig A))
  have c1 := hb1.cell (wideF_0 nb (dig B))
  have hA' := Lib.hid hA
  have hB' := Lib.hid hB
  clear hA hB
  by_cases hs : na = nb
  · subst hs
    have hpb := Lib.hid (show plusB na A na B = na by simp [plusB])
    have hpn := Lib.hid (show plusN na A na B = A + B by simp [plusN])
    go_enter Try.func43, Try.ntmps43
    go_wp2_with (first | (refine load_w rfl (.tmp 2) rfl w.heap.size rfl na (dig A) hb0 ?_) | (refine load_w rfl (.tmp 3) rfl (w.heap.size + 1) rfl na (dig B) hb1 ?_))
    refine (plus_any na na A B _).mono ?_
    rintro e w2 ⟨rfl, hk2⟩
    have hk02 := hk0.trans0 hk2
    have hbz := hk2.blk hb2 (by simp)
    have hnew := Blk.new w2 (wideF false fun _ => 0) 83
    go_wp2_with (refine store_w rfl (.tmp 5) (.tmp 15) rfl w2.heap.size rfl _ _ _ _ rfl hnew ?_)
    intro w3 hb3 hk3
    have hk23 : Kept [] w2 w3 := ((Kept.refl [] w2).alloc _).trans hk3 (fun _ h => h) (fun x h => by simp at h; right; omega)
    have hk03 := hk02.trans0 hk23
    have cs := (hk23.blk (hk2.blk hb0 (by simp)) (by simp)).cell (wideF_0 na _)
    have cy := hb3.cell (wideF_0 na _)
    have fy := hb3.free 0
    have hlt2 := hk2.size
    simp at hlt2
    have hb4 : Blk (w3.setCell ⟨w2.heap.size, 0, none⟩ (.bool na)) w2.heap.size (wideF na (dig (A + B))) 83 := hb3.set 0 _
    have hb5 : Blk (w3.setCell ⟨w2.heap.size, 0, none⟩ (.bool na)) (w.heap.size + 1 + 1) (wideF false fun _ => 0) 83 := (hk23.blk hbz (by simp)).set_ne (by simp; omega) _
    go_wp2_with (first | (refine load_w rfl (.tmp 5) rfl w2.heap.size rfl na (dig (A + B)) hb4 ?_) | (refine store_w rfl (.tmp 4) (.tmp 19) rfl (w.heap.size + 1 + 1) rfl _ _ _ _ rfl hb5 ?_))
    intro w4 hb6 hk4
    go_wp2
    refine bodyPost_ret (ret_w rfl _ (w.heap.size + 1 + 1) _ _ rfl hb6) rfl ⟨by rw [hpb.out, hpn.out]; rfl, ?_⟩
    exact (hk03.setCell (p := ⟨w2.heap.size, 0, none⟩) (.inr (by simp; omega)) _).trans hk4 (fun _ h => h) (fun x h => by simp at h; right; omega)
  · have hsf : (na == nb) = false := by simpa using hs
    by_cases hAB : A < B
    · have hpb := Lib.hid (show plusB na A nb B = nb by simp [plusB, hs, hAB])
      have hpn := Lib.hid (show plusN na A nb B = B - A by simp [plusN, hs, hAB])
      have hd := Lib.hid (decide_eq_true hAB)
      have hle := Nat.le_of_lt hAB
      have hle' := Lib.hid hle
      clear hs hAB hle
      go_enter Try.func43, Try.ntmps43
      go_wp2_with (first | (refine load_w rfl (.tmp 2) rfl w.heap.size rfl na (dig A) hb0 ?_) | (refine load_w rfl (.tmp 3) rfl (w.heap.size + 1) rfl nb (dig B) hb1 ?_))
      refine (less_any na nb A B hA'.out hB'.out _).mono ?_
      rintro e w1 ⟨rfl, hk1⟩
      rw [hd.out]
      go_wp2_with (first | (refine load_w rfl (.tmp 3) rfl (w.heap.size + 1) rfl nb (dig B) (hk1.blk hb1 (by simp)) ?_) | (refine load_w rfl (.tmp 2) rfl w.heap.size rfl na (dig A) (hk1.blk hb0 (by simp)) ?_))
      refine (minus_any nb na B A hle'.out _).mono ?_
      rintro e w2 ⟨rfl, hk12⟩
      have hk2 := hk1.trans0 hk12
      have hk02 := hk0.trans0 hk2
      have hbz := hk2.blk hb2 (by simp)
      have hnew := Blk.new w2 (wideF false fun _ => 0) 83
      go_wp2_with (refine store_w rfl (.tmp 6) (.tmp 25) rfl w2.heap.size rfl _ _ _ _ rfl hnew ?_)
      intro w3 hb3 hk3
      have hk23 : Kept [] w2 w3 := ((Kept.refl [] w2).alloc _).trans hk3 (fun _ h => h) (fun x h => by simp at h; right; omega)
      have hk03 := hk02.trans0 hk23
      have cs := (hk23.blk (hk2.blk hb1 (by simp)) (by simp)).cell (wideF_0 nb _)
      have cy := hb3.cell (wideF_0 nb _)
      have fy := hb3.free 0
      have hlt2 := hk2.size
      simp at hlt2
      have hb4 : Blk (w3.setCell ⟨w2.heap.size, 0, none⟩ (.bool nb)) w2.heap.size (wideF nb (dig (B - A))) 83 := hb3.set 0 _
      have hb5 : Blk (w3.setCell ⟨w2.heap.size, 0, none⟩ (.bool nb)) (w.heap.size + 1 + 1) (wideF false fun _ => 0) 83 := (hk23.blk hbz (by simp)).set_ne (by simp; omega) _
      go_wp2_with (first | (refine load_w rfl (.tmp 6) rfl w2.heap.size rfl nb (dig (B - A)) hb4 ?_) | (refine store_w rfl (.tmp 4) (.tmp 29) rfl (w.heap.size + 1 + 1) rfl _ _ _ _ rfl hb5 ?_))
      intro w4 hb6 hk4
      go_wp2
      refine bodyPost_ret (ret_w rfl _ (w.heap.size + 1 + 1) _ _ rfl hb6) rfl ⟨by rw [hpb.out, hpn.out]; rfl, ?_⟩
      exact (hk03.setCell (p := ⟨w2.heap.size, 0, none⟩) (.inr (by simp; omega)) _).trans hk4 (fun _ h => h) (fun x h => by simp at h; right; omega)
    · have hpb := Lib.hid (show plusB na A nb B = na by simp [plusB, hs, hAB])
      have hpn := Lib.hid (show plusN na A nb B = A - B by simp [plusN, hs, hAB])
      have hd := Lib.hid (decide_eq_false hAB)
      have hle := Nat.le_of_not_lt hAB
      have hle' := Lib.hid hle
      clear hs hAB hle
      go_enter Try.func43, Try.ntmps43
      go_wp2_with (first | (refine load_w rfl (.tmp 2) rfl w.heap.size rfl na (dig A) hb0 ?_) | (refine load_w rfl (.tmp 3) rfl (w.heap.size + 1) rfl nb (dig B) hb1 ?_))
      refine (less_any na nb A B hA'.out hB'.out _).mono ?_
      rintro e w1 ⟨rfl, hk1⟩
      rw [hd.out]
      go_wp2_with (first | (refine load_w rfl (.tmp 2) rfl w.heap.size rfl na (dig A) (hk1.blk hb0 (by simp)) ?_) | (refine load_w rfl (.tmp 3) rfl (w.heap.size + 1) rfl nb (dig B) (hk1.blk hb1 (by simp)) ?_))
      refine (minus_any na nb A B hle'.out _).mono ?_
      rintro e w2 ⟨rfl, hk12⟩
      have hk2 := hk1.trans0 hk12
      have hk02 := hk0.trans0 hk2
      have hbz := hk2.blk hb2 (by simp)
      have hnew := Blk.new w2 (wideF false fun _ => 0) 83
      go_wp2_with (refine store_w rfl (.tmp 7) (.tmp 32) rfl w2.heap.size rfl _ _ _ _ rfl hnew ?_)
      intro w3 hb3 hk3
      have hk23 : Kept [] w2 w3 := ((Kept.refl [] w2).alloc _).trans hk3 (fun _ h => h) (fun x h => by simp at h; right; omega)
      have hk03 := hk02.trans0 hk23
      have cs := (hk23.blk (hk2.blk hb0 (by simp)) (by simp)).cell (wideF_0 na _)
      have cy := hb3.cell (wideF_0 na _)
      have fy := hb3.free 0
      have hlt2 := hk2.size
      simp at hlt2
      have hb4 : Blk (w3.setCell ⟨w2.heap.size, 0, none⟩ (.bool na)) w2.heap.size (wideF na (dig (A - B))) 83 := hb3.set 0 _
      have hb5 : Blk (w3.setCell ⟨w2.heap.size, 0, none⟩ (.bool na)) (w.heap.size + 1 + 1) (wideF false fun _ => 0) 83 := (hk23.blk hbz (by simp)).set_ne (by simp; omega) _
      go_wp2_with (first | (refine load_w rfl (.tmp 7) rfl w2.heap.size rfl na (dig (A - B)) hb4 ?_) | (refine store_w rfl (.tmp 4) (.tmp 36) rfl (w.heap.size + 1 + 1) rfl _ _ _ _ rfl hb5 ?_))
      intro w4 hb6 hk4
      go_wp2
      refine bodyPost_ret (ret_w rfl _ (w.heap.size + 1 + 1) _ _ rfl hb6) rfl ⟨by rw [hpb.out, hpn.out]; rfl, ?_⟩
      exact (hk03.setCell (p := ⟨w2.heap.size, 0, none⟩) (.inr (by simp; omega)) _).trans hk4 (fun _ h => h) (fun x h => by simp at h; right; omega)
end Go.Proofs.Ytimplkdmhndalaa
