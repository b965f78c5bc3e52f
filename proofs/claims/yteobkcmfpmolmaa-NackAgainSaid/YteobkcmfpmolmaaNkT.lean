/- The document's nack: Stop, Below. -/
import Derived.Test.YteobkcmfpmolmaaNkS
import Derived.Test.YteobkcmfpmolmaaNkV
namespace Go.Proofs.Yteobkcmfpmolmaa
open Go Go.RowKit
theorem filt_step (p : It → Bool) (l : List It) (i : Nat) (hi : i < l.length) : (l.take (i + 1)).filter p = (l.take i).filter p ++ (if p (l.getD i it0) = true then [l.getD i it0] else []) := by
  rw [List.take_add_one, List.getElem?_eq_getElem hi, List.filter_append]
  have e : l.getD i it0 = l[i] := by simp [List.getD, hi]
  rw [e]
  simp [List.filter]
  split <;> simp_all
set_option maxRecDepth 100000 in
set_option maxHeartbeats 12000000 in
theorem rstop_any (a : Option Addr) (n c : Nat) (l : List It) (room asked full k : Int) (w : World) (hl : L3 w 56 a l) (hn : l.length = n) (h100 : n ≤ 1000) :
    Calls Try.prog 16 #[.agg #[.int .i64 room, .int .i64 asked, .int .i64 full, .slice a n c], .int .u32 k] w (LsP w room asked full (stopN k l)) := by
  have hz := zeroRList
  have P0 := hx (show Bx2 w ((w.alloc (.cells #[.int .i64 room, .int .i64 asked, .int .i64 full, .slice a n c] 27)).alloc (.cells #[.int .i64 0, .int .i64 0, .int .i64 0, .slice none 0 0] 27)) 27 (ls4 room asked full (.slice a n c)) (ls4 0 0 0 (.slice none 0 0)) from Bx2.new w 27 (ls4 room asked full (.slice a n c)) (ls4 0 0 0 (.slice none 0 0)))
  have HL := hx hl
  have HN := hx hn
  generalize hPP : LsP w room asked full (stopN k l) = PP at *
  have HPP := hx hPP
  clear hl hn hPP
  go_enter Try.func16, Try.ntmps16
  go_upto_region 1 with fail
  generalize (w.alloc (.cells #[.int .i64 room, .int .i64 asked, .int .i64 full, .slice a n c] 27)).alloc (.cells #[.int .i64 0, .int .i64 0, .int .i64 0, .slice none 0 0] 27) = W0 at *
  clear hz
  go_wp2_with fail
  go_loopw [5, 6] (fun ov iv wr => ∃ (i : Nat) (out : List It) (u : Value), i ≤ n ∧ iv = .int .i64 i ∧ u = ov ∧ out = (l.take i).filter (fun y => y.1 != k) ∧ wr.ownsRow (w.heap.size + 2) 56 3 u out.length (cl3 out) ∧ Bx2 w wr 27 (ls4 room asked full (.slice a n c)) (ls4 0 0 0 (.slice none 0 0))) (fun _ iv _ => n - (intOf iv).toNat)
  case atStart => exact ⟨0, [], _, by omega, rfl, rfl, by simp, World.ownsRow_nil _ _ _ _, P0.out⟩
  case round =>
    clear P0
    obtain ⟨i, out, u, hi, rfl, hu, hpi, ho, hp⟩ := hrel
    subst hu
    have HPI := hx hpi
    have HO := hx ho
    have HP := hx hp
    have HLN := hx (show out.length ≤ 1001 by
      have h := List.length_filter_le (fun y => y.1 != k) (l.take i)
      rw [← hpi, List.length_take] at h
      omega)
    clear hpi ho hp
    have c3 := HP.out.b0.cell (i := 3) rfl
    by_cases hlt : i < n
    · have hli : (i : Int) < (n : Int) := by omega
      have hil : i < l.length := by have := HN.out; omega
      obtain ⟨g, off, rfl, e1, e2, e3⟩ := (HL.out.kept HP.out.k).cell i hil
      have HF := hx (filt_step (fun y => y.1 != k) l i hil)
      generalize l.getD i it0 = y at *
      obtain ⟨y1, y2, y3⟩ := y
      simp only at e1 e2 e3
      cases hk : (y1 != k)
      · have HI2 := hx (show (l.take (i + 1)).filter (fun y => y.1 != k) = out by rw [HF.out, HPI.out]; simp only [hk]; simp)
        clear HF
        go_wp2
        go_roundw
        case rel => exact ⟨i + 1, out, u, by omega, by go_num, rfl, HI2.out.symm, HO.out, HP.out⟩
        case measure => simp [intOf] <;> omega
      · have HI2 := hx (show (l.take (i + 1)).filter (fun y => y.1 != k) = out ++ [(y1, y2, y3)] by rw [HF.out, HPI.out]; simp only [hk]; simp)
        clear HF
        go_wp2_with (at_builtin; refine wpList_app rfl (.tmp 22) (.tmp 28) 25 rfl (w.heap.size + 2) 56 (.agg #[.int .u32 0, .int .i64 0, .int .i64 0]) 3 24 infoItem Try.underlying25 rfl (by omega) u (out).length (cl3 (out)) rfl (World.ownsRow.alloc HO.out _) (some ⟨_, 0, none⟩) 1 1 (ci3 (y1, y2, y3)) rfl rfl (by simp) (by omega) (news2 (Blk.new _ (ci3 (y1, y2, y3)) 56)) (one_ci3 _) (by have := HLN.out; simp [maxLen]; omega) (by have := HLN.out; simp; omega) (HP.out.alloc _).size ?_; intro u2 w8 ho8 hg8; have HP8 := hx ((HP.out.alloc _).grown hg8 (fun q hq => (HO.out.lt q hq).1)); have HO8 := hx (own_push3 ho8); clear ho8 hg8)
        go_roundw
        case rel => exact ⟨i + 1, out ++ [(y1, y2, y3)], u2, by omega, by go_num, rfl, HI2.out.symm, HO8.out, HP8.out⟩
        case measure => simp [intOf] <;> omega
    · obtain rfl : i = n := by omega
      obtain ⟨hlen, a2, c2', rfl, hcap, hL3⟩ := l3_own HO.out
      have HE := hx (show out = l.filter (fun y => y.1 != k) by rw [HPI.out, ← HN.out, List.take_length])
      have HCP := hx hcap
      have hol : out.length ≤ 1001 := HLN.out
      have h100 : i ≤ 1000 := by have := h100; omega
      have hf := HP.out.b0.free
      have B0 := hx (HP.out.b0.set 3 (.slice a2 out.length c2'))
      have B1 := hx (HP.out.b1.set_ne (a := ⟨w.heap.size, 3, none⟩) (by simp) (.slice a2 out.length c2'))
      have K1 := hx (HP.out.k.setCell (p := ⟨w.heap.size, 3, none⟩) (.inr (by simp)) (.slice a2 out.length c2'))
      have O1 := hx (own_set HO.out ((Kept.refl [w.heap.size] wr).setCell (p := ⟨w.heap.size, 3, none⟩) (.inl (by simp)) (.slice a2 out.length c2')) (by simp))
      skip
      clear HO HP hL3 hcap hlen
      generalize hNN : out.length = N at *
      have HNN := hx hNN
      clear hNN
      go_upto_region 8 with fail
      clear c3 hf
      generalize World.setCell _ _ _ = W2 at *
      go_wp2_with (first
        | refine load_blk rfl 27 (.tmp 2) rfl w.heap.size rfl 27 _ _ B0.out Try.underlying27 rfl infoList ?_
        | (refine store_blk rfl 27 (.tmp 4) (.tmp 32) rfl (w.heap.size + 1) rfl 27 _ (ls4 room asked full (.slice a2 N c2')) rfl B1.out rfl infoList (by intro x hx; simp at hx; rcases hx with rfl | rfl | rfl | rfl <;> rfl) ?_
           intro w9 hb9 hk9))
      refine bodyPost_ret (ret_blk rfl _ (w.heap.size + 1) _ _ _ rfl hb9 Try.underlying27 rfl infoList) rfl ?_
      rw [← HPP.out]
      have h := own_set O1.out hk9 (by simp)
      rw [← HNN.out] at h
      obtain ⟨_, a', c', he, _, hr⟩ := l3_own h
      simp only [HNN.out, Value.slice.injEq] at he
      obtain ⟨rfl, _, rfl⟩ := he
      refine ⟨a2, N, c2', rfl, by rw [← HNN.out]; exact congrArg List.length HE.out.symm, HCP.out, ?_, K1.out.trans hk9 (fun _ h => h) (fun x h => by simp at h; right; omega)⟩
      show L3 w9 56 a2 (l.filter (fun y => y.1 != k))
      rw [← HE.out]
      exact hr
def belowR (k : Int) (l : List It) : List It := l.filter (fun y => decide (0 ≤ behV y.1 k))
def BlP (w : World) (room asked full : Int) (m : Int) (r : List It) (e : Ending) (w' : World) : Prop :=
  ∃ a n c, e = .returned (.tuple #[.agg #[.int .i64 room, .int .i64 asked, .int .i64 full, .slice a n c], .int .i64 (m - (n : Int))]) ∧ r.length = n ∧ n ≤ c ∧ L3 w' 56 a r ∧ Kept [] w w'
set_option maxRecDepth 100000 in
set_option maxHeartbeats 12000000 in
theorem rbelow_any (a : Option Addr) (n c : Nat) (l : List It) (room asked full k : Int) (w : World) (hl : L3 w 56 a l) (hn : l.length = n) (h100 : n ≤ 1000) (hk : 0 ≤ k ∧ k ≤ 4294967295) (hks : ∀ x, x ∈ l → 0 ≤ x.1 ∧ x.1 ≤ 4294967295) :
    Calls Try.prog 17 #[.agg #[.int .i64 room, .int .i64 asked, .int .i64 full, .slice a n c], .int .u32 k] w (BlP w room asked full (n : Int) (belowR k l)) := by
  have hz := zeroRList
  have P0 := hx (show Bx2 w ((w.alloc (.cells #[.int .i64 room, .int .i64 asked, .int .i64 full, .slice a n c] 27)).alloc (.cells #[.int .i64 0, .int .i64 0, .int .i64 0, .slice none 0 0] 27)) 27 (ls4 room asked full (.slice a n c)) (ls4 0 0 0 (.slice none 0 0)) from Bx2.new w 27 (ls4 room asked full (.slice a n c)) (ls4 0 0 0 (.slice none 0 0)))
  have HL := hx hl
  have HN := hx hn
  have HB := hx (fun (i : Nat) (hi : i < l.length) (w : World) => rbeh_any (l.getD i it0).1 k w (hks _ (by rw [← List.getElem_eq_getD (h := hi)]; exact List.getElem_mem hi)) hk)
  generalize hPP : BlP w room asked full (n : Int) (belowR k l) = PP at *
  have HPP := hx hPP
  clear hl hn hPP hk hks
  go_enter Try.func17, Try.ntmps17
  go_upto_region 1 with fail
  generalize (w.alloc (.cells #[.int .i64 room, .int .i64 asked, .int .i64 full, .slice a n c] 27)).alloc (.cells #[.int .i64 0, .int .i64 0, .int .i64 0, .slice none 0 0] 27) = W0 at *
  clear hz
  go_wp2_with fail
  go_loopw [6, 7] (fun ov iv wr => ∃ (i : Nat) (out : List It) (u : Value), i ≤ n ∧ iv = .int .i64 i ∧ u = ov ∧ out = (l.take i).filter (fun y => decide (0 ≤ behV y.1 k)) ∧ wr.ownsRow (w.heap.size + 2) 56 3 u out.length (cl3 out) ∧ Bx2 w wr 27 (ls4 room asked full (.slice a n c)) (ls4 0 0 0 (.slice none 0 0))) (fun _ iv _ => n - (intOf iv).toNat)
  case atStart => exact ⟨0, [], _, by omega, rfl, rfl, by simp, World.ownsRow_nil _ _ _ _, P0.out⟩
  case round =>
    clear P0
    obtain ⟨i, out, u, hi, rfl, hu, hpi, ho, hp⟩ := hrel
    subst hu
    have HPI := hx hpi
    have HO := hx ho
    have HP := hx hp
    have HLN := hx (show out.length ≤ 1001 by
      have h := List.length_filter_le (fun y => decide (0 ≤ behV y.1 k)) (l.take i)
      rw [← hpi, List.length_take] at h
      omega)
    clear hpi ho hp
    have c3 := HP.out.b0.cell (i := 3) rfl
    by_cases hlt : i < n
    · have hli : (i : Int) < (n : Int) := by omega
      have hil : i < l.length := by have := HN.out; omega
      obtain ⟨g, off, rfl, e1, e2, e3⟩ := (HL.out.kept HP.out.k).cell i hil
      have HF := hx (filt_step (fun y => decide (0 ≤ behV y.1 k)) l i hil)
      have HBI := hx (HB.out i hil)
      generalize l.getD i it0 = y at *
      obtain ⟨y1, y2, y3⟩ := y
      simp only at e1 e2 e3 HBI
      cases hk : (decide (0 ≤ behV y1 k))
      · have HI2 := hx (show (l.take (i + 1)).filter (fun y => decide (0 ≤ behV y.1 k)) = out by rw [HF.out, HPI.out]; simp only [hk]; simp)
        clear HF
        generalize behV y1 k = bv at *
        go_wp2_with (go_at_call 31; refine (HBI.out _).mono ?_; rintro e w4 ⟨rfl, rfl⟩)
        go_roundw
        case rel => exact ⟨i + 1, out, u, by omega, by go_num, rfl, HI2.out.symm, HO.out, HP.out⟩
        case measure => simp [intOf] <;> omega
      · have HI2 := hx (show (l.take (i + 1)).filter (fun y => decide (0 ≤ behV y.1 k)) = out ++ [(y1, y2, y3)] by rw [HF.out, HPI.out]; simp only [hk]; simp)
        clear HF
        generalize behV y1 k = bv at *
        go_wp2_with (first | (go_at_call 31; refine (HBI.out _).mono ?_; rintro e w4 ⟨rfl, rfl⟩) | (at_builtin; refine wpList_app rfl (.tmp 25) (.tmp 31) 25 rfl (w.heap.size + 2) 56 (.agg #[.int .u32 0, .int .i64 0, .int .i64 0]) 3 24 infoItem Try.underlying25 rfl (by omega) u (out).length (cl3 (out)) rfl (World.ownsRow.alloc HO.out _) (some ⟨_, 0, none⟩) 1 1 (ci3 (y1, y2, y3)) rfl rfl (by simp) (by omega) (news2 (Blk.new _ (ci3 (y1, y2, y3)) 56)) (one_ci3 _) (by have := HLN.out; simp [maxLen]; omega) (by have := HLN.out; simp; omega) (HP.out.alloc _).size ?_; intro u2 w8 ho8 hg8; have HP8 := hx ((HP.out.alloc _).grown hg8 (fun q hq => (HO.out.lt q hq).1)); have HO8 := hx (own_push3 ho8); clear ho8 hg8))
        go_roundw
        case rel => exact ⟨i + 1, out ++ [(y1, y2, y3)], u2, by omega, by go_num, rfl, HI2.out.symm, HO8.out, HP8.out⟩
        case measure => simp [intOf] <;> omega
    · obtain rfl : i = n := by omega
      obtain ⟨hlen, a2, c2', rfl, hcap, hL3⟩ := l3_own HO.out
      have HE := hx (show out = l.filter (fun y => decide (0 ≤ behV y.1 k)) by rw [HPI.out, ← HN.out, List.take_length])
      have HCP := hx hcap
      have hol : out.length ≤ 1001 := HLN.out
      have h100 : i ≤ 1000 := by have := h100; omega
      have hf := HP.out.b0.free
      have B0 := hx (HP.out.b0.set 3 (.slice a2 out.length c2'))
      have B1 := hx (HP.out.b1.set_ne (a := ⟨w.heap.size, 3, none⟩) (by simp) (.slice a2 out.length c2'))
      have K1 := hx (HP.out.k.setCell (p := ⟨w.heap.size, 3, none⟩) (.inr (by simp)) (.slice a2 out.length c2'))
      have O1 := hx (own_set HO.out ((Kept.refl [w.heap.size] wr).setCell (p := ⟨w.heap.size, 3, none⟩) (.inl (by simp)) (.slice a2 out.length c2')) (by simp))
      have hws : IntKind.i64.wrap ((i : Int) - (out.length : Int)) = (i : Int) - (out.length : Int) := by rw [IntKind.wrap_i64]; omega
      clear HO HP hL3 hcap hlen
      generalize hNN : out.length = N at *
      have HNN := hx hNN
      clear hNN
      go_upto_region 9 with fail
      clear c3 hf
      generalize World.setCell _ _ _ = W2 at *
      go_wp2_with (first
        | refine load_blk rfl 27 (.tmp 2) rfl w.heap.size rfl 27 _ _ B0.out Try.underlying27 rfl infoList ?_
        | (refine store_blk rfl 27 (.tmp 4) (.tmp 41) rfl (w.heap.size + 1) rfl 27 _ (ls4 room asked full (.slice a2 N c2')) rfl B1.out rfl infoList (by intro x hx; simp at hx; rcases hx with rfl | rfl | rfl | rfl <;> rfl) ?_
           intro w9 hb9 hk9))
      refine bodyPost_ret (ret_blk2 rfl _ (w.heap.size + 1) _ _ _ _ rfl rfl hb9 Try.underlying27 rfl infoList) rfl ?_
      rw [← HPP.out]
      have h := own_set O1.out hk9 (by simp)
      rw [← HNN.out] at h
      obtain ⟨_, a', c', he, _, hr⟩ := l3_own h
      simp only [HNN.out, Value.slice.injEq] at he
      obtain ⟨rfl, _, rfl⟩ := he
      refine ⟨a2, N, c2', rfl, by rw [← HNN.out]; exact congrArg List.length HE.out.symm, HCP.out, ?_, K1.out.trans hk9 (fun _ h => h) (fun x h => by simp at h; right; omega)⟩
      show L3 w9 56 a2 (l.filter (fun y => decide (0 ≤ behV y.1 k)))
      rw [← HE.out]
      exact hr
end Go.Proofs.Yteobkcmfpmolmaa
