/- The document's timer: Without. -/
import Derived.Test.YthcbacflopbkdaaTmP
import Derived.Test.YthcbacflopbkdaaL2
import Derived.Test.YthcbacflopbkdaaOpen
import Derived.Deep.DeepCutAuto
namespace Go.Proofs.Ythcbacflopbkdaa
open Go Go.RowKit
theorem infoRun : (Try.prog.info? 46).map (fun i => (i.zero, i.size, i.bytes)) = some (some (.agg #[.int .i64 0, .int .i64 0]), 2, 16) := by kernel_rfl
theorem infoSet : (Try.prog.info? 34).map (·.size) = some 3 := by kernel_rfl
theorem zeroRSet (w : World) : (zeroValue 34).run Try.prog w = .ok (.agg #[.int .i64 0, .int .i64 0, .slice none 0 0]) w := by kernel_rfl
theorem news2 {w : World} {g : Nat} {xs : List Value} {T : TypeId} (h : Blk w g xs T) : ∀ ad, some (⟨g, 0, none⟩ : Addr) = some ad → ∀ j u, xs[j]? = some u → w.cell? (ad.add j) = some u := by
  intro ad ha j u hu
  simp only [Option.some.injEq] at ha
  subst ha
  rw [Addr.add_mid]
  simp only [Nat.zero_add]
  exact h.cell hu
abbrev set3 (room now : Int) (v : Value) : List Value := [.int .i64 room, .int .i64 now, v]
theorem wo_yes (k : Int) (l : List (Int × Int)) (i : Nat) (hi : i < l.length) (h : ((l.getD i (0, 0)).1 != k) = true) : without k (l.take (i + 1)) = without k (l.take i) ++ [l.getD i (0, 0)] := by
  unfold without
  rw [List.take_add_one, List.getElem?_eq_getElem hi, List.filter_append]
  have e : l.getD i (0, 0) = l[i] := by simp [List.getD, hi]
  rw [e] at h ⊢
  simp [h]
theorem wo_no (k : Int) (l : List (Int × Int)) (i : Nat) (hi : i < l.length) (h : ((l.getD i (0, 0)).1 != k) = false) : without k (l.take (i + 1)) = without k (l.take i) := by
  unfold without
  rw [List.take_add_one, List.getElem?_eq_getElem hi, List.filter_append]
  have e : l.getD i (0, 0) = l[i] := by simp [List.getD, hi]
  rw [e] at h
  simp [h]
theorem wo_len (k : Int) (l : List (Int × Int)) : (without k l).length ≤ l.length := List.length_filter_le _ _
def WoP (w : World) (room now : Int) (l r : List (Int × Int)) (e : Ending) (w' : World) : Prop :=
  ∃ a n c, e = .returned (.tuple #[.agg #[.int .i64 room, .int .i64 now, .slice a n c], .bool (decide (r.length < l.length))]) ∧ r.length = n ∧ n ≤ c ∧ L2 w' 46 a r ∧ Kept [] w w'
set_option maxRecDepth 100000 in
set_option maxHeartbeats 12000000 in
theorem rwithout_any (a : Option Addr) (n c : Nat) (l : List (Int × Int)) (room now k : Int) (w : World) (hl : L2 w 46 a l) (hn : l.length = n) (h100 : n ≤ 1000) :
    Calls Try.prog 27 #[.agg #[.int .i64 room, .int .i64 now, .slice a n c], .int .i64 k] w (WoP w room now l (without k l)) := by
  have hz := zeroRSet
  have HL := hx hl
  have HN := hx hn
  have P0 := hx (Bx2.new w 34 (set3 room now (.slice a n c)) (set3 0 0 (.slice none 0 0)))
  generalize hPP : WoP w room now l (without k l) = PP at *
  have HPP := hx hPP
  clear hl hn hPP
  go_enter Try.func27, Try.ntmps27
  go_wp2_with fail
  generalize (w.alloc (.cells #[.int .i64 room, .int .i64 now, .slice a n c] 34)).alloc (.cells #[.int .i64 0, .int .i64 0, .slice none 0 0] 34) = W0 at *
  clear hz
  go_loopw [6, 7] (fun ov iv wr => ∃ (i : Nat) (out : List (Int × Int)) (u : Value), i ≤ n ∧ iv = .int .i64 i ∧ u = ov ∧ out = without k (l.take i) ∧ wr.ownsRow (w.heap.size + 2) 46 2 u out.length (cl2 out) ∧ Bx2 w wr 34 (set3 room now (.slice a n c)) (set3 0 0 (.slice none 0 0))) (fun _ iv _ => n - (intOf iv).toNat)
  case atStart => exact ⟨0, [], _, by omega, rfl, rfl, by simp [without], World.ownsRow_nil _ _ _ _, P0.out⟩
  case round =>
    clear P0
    obtain ⟨i, out, u, hi, rfl, rfl, hpi, ho, hp⟩ := hrel
    have HPI := hx hpi
    have HO := hx ho
    have HP := hx hp
    have HLN := hx (show out.length ≤ 1001 by
      have h := wo_len k (l.take i)
      rw [← hpi, List.length_take] at h
      omega)
    clear hpi ho hp
    have c2 := HP.out.b0.cell (i := 2) rfl
    by_cases hlt : i < n
    · have hli : (i : Int) < (n : Int) := by omega
      have hil : i < l.length := by have := HN.out; omega
      obtain ⟨g, off, rfl, e1, e2⟩ := (HL.out.kept HP.out.k).cell i hil
      cases hk : ((l.getD i (0, 0)).1 != k)
      · have HI2 := hx (wo_no k l i hil hk)
        generalize l.getD i (0, 0) = y at *
        obtain ⟨y1, y2⟩ := y
        simp only at hk e1 e2
        go_wp2
        go_roundw
        case rel => exact ⟨i + 1, out, u, by omega, by go_num, rfl, by rw [HI2.out]; exact HPI.out, HO.out, HP.out⟩
        case measure => simp [intOf] <;> omega
      · have HI2 := hx (wo_yes k l i hil hk)
        generalize l.getD i (0, 0) = y at *
        obtain ⟨y1, y2⟩ := y
        simp only at hk e1 e2
        go_wp2_with (first
          | (at_builtin; refine wpList_app rfl (.tmp 24) (.tmp 30) 32 rfl (w.heap.size + 2) 46 (.agg #[.int .i64 0, .int .i64 0]) 2 16 infoRun Try.underlying32 rfl (by omega) u out.length (cl2 out) rfl (World.ownsRow.alloc HO.out _) (some ⟨_, 0, none⟩) 1 1 (ci2 (y1, y2)) rfl rfl (by simp) (by omega) (news2 (Blk.new _ (ci2 (y1, y2)) 46)) (one_ci2 _) (by unfold maxLen; have := HLN.out; omega) (by have := HLN.out; omega) (HP.out.alloc _).size ?_; intro u2 w8 ho8 hg8; have HP8 := hx ((HP.out.alloc _).grown hg8 (fun q hq => (HO.out.lt q hq).1)); have HO8 := hx (own_push2 ho8); clear ho8 hg8))
        go_wp2
        go_roundw
        case rel => exact ⟨i + 1, out ++ [(y1, y2)], u2, by omega, by go_num, rfl, by rw [HI2.out, ← HPI.out], HO8.out, HP8.out⟩
        case measure => simp [intOf] <;> omega
    · obtain rfl : i = n := by omega
      obtain ⟨hlen, a2, c2', rfl, hcap, hL2⟩ := l2_own HO.out
      have HE := hx (show out = without k l by rw [HPI.out, ← HN.out, List.take_length])
      have HCP := hx hcap
      have hol : out.length ≤ 1001 := HLN.out
      have hf := HP.out.b0.free
      have B0 := hx (HP.out.b0.set 2 (.slice a2 out.length c2'))
      have B1 := hx (HP.out.b1.set_ne (a := ⟨w.heap.size, 2, none⟩) (by simp) (.slice a2 out.length c2'))
      have K1 := hx (HP.out.k.setCell (p := ⟨w.heap.size, 2, none⟩) (.inr (by simp)) (.slice a2 out.length c2'))
      have O1 := hx (own_set HO.out ((Kept.refl [w.heap.size] wr).setCell (p := ⟨w.heap.size, 2, none⟩) (.inl (by simp)) (.slice a2 out.length c2')) (by simp))
      clear HO HP hL2 hcap hlen
      generalize hN : out.length = N at *
      have HNN := hx hN
      clear hN
      go_upto_region 9 with fail
      clear c2 hf
      generalize World.setCell _ _ _ = W2 at *
      go_wp2_with (first
        | refine load_blk rfl 34 (.tmp 2) rfl w.heap.size rfl 34 _ _ B0.out Try.underlying34 rfl infoSet ?_
        | (refine store_blk rfl 34 (.tmp 4) (.tmp 40) rfl (w.heap.size + 1) rfl 34 _ (set3 room now (.slice a2 N c2')) rfl B1.out rfl infoSet (by intro x hx; simp at hx; rcases hx with rfl | rfl | rfl <;> rfl) ?_
           intro w9 hb9 hk9))
      refine bodyPost_ret (ret_blk2 rfl _ (w.heap.size + 1) _ _ _ _ rfl rfl hb9 Try.underlying34 rfl infoSet) rfl ?_
      rw [← HPP.out]
      refine ⟨a2, N, c2', ?_, by rw [← HE.out]; exact HNN.out, HCP.out, ?_, K1.out.trans hk9 (fun _ h => h) (fun x h => by simp at h; right; omega)⟩
      · rw [← HE.out, HNN.out, HN.out]
        rfl
      · have h := own_set O1.out hk9 (by simp)
        rw [← HNN.out] at h
        rw [← HE.out]
        obtain ⟨_, a', c', he, _, hr⟩ := l2_own h
        simp only [Value.slice.injEq] at he
        obtain ⟨rfl, _, rfl⟩ := he
        exact hr
end Go.Proofs.Ythcbacflopbkdaa
