import Derived.Test.YthpdoekeooedfaaPrioV
namespace Go.Proofs.Ythpdoekeooedfaa
open Go Go.RowKit
theorem ret_blk2 {P : Program} {w : World} {fn : Func} {p q : Tmp} {ty : TypeId} (h : fn.results = #[.cell p ty, .tmp q]) (tmps : Array Value) (g : Nat) (T : TypeId) (xs : List Value) (v : Value) (d : TypeDesc)
    (hp : tmps.getD p undef = .pointer (some ⟨g, 0, none⟩)) (hq : tmps.getD q undef = v) (hb : Blk w g xs T)
    (hu : P.underlying ty = some d) (hd : (match d with | .struct _ | .array _ _ => true | _ => false) = true) (hi : (P.info? ty).map (·.size) = some xs.length) :
    (results fn tmps).run P w = .ok (.tuple #[.agg xs.toArray, v]) w := by
  have hp' : tmps[p]?.getD undef = .pointer (some ⟨g, 0, none⟩) := by simpa using hp
  have hq' : tmps[q]?.getD undef = v := by simpa using hq
  simp [results, h, hp', hq', asAddr, run_loadVar_row w g T ty xs.toArray (0, 0) d hb hu hd (by simpa using hi)]
def keepB (d v : Int) : Bool := v.tmod d != 0
def keepR (d : Int) (x : Int × Int) : Bool := keepB d x.2
theorem filt_yes (d : Int) (l : List (Int × Int)) (i : Nat) (hi : i < l.length) (h : keepR d (l.getD i (0, 0)) = true) : (l.take (i + 1)).filter (keepR d) = (l.take i).filter (keepR d) ++ [l.getD i (0, 0)] := by
  rw [List.take_add_one, List.getElem?_eq_getElem hi, List.filter_append]
  have e : l.getD i (0, 0) = l[i] := by simp [List.getD, hi]
  rw [e] at h ⊢
  simp [h]
theorem filt_no (d : Int) (l : List (Int × Int)) (i : Nat) (hi : i < l.length) (h : keepR d (l.getD i (0, 0)) = false) : (l.take (i + 1)).filter (keepR d) = (l.take i).filter (keepR d) := by
  rw [List.take_add_one, List.getElem?_eq_getElem hi, List.filter_append]
  have e : l.getD i (0, 0) = l[i] := by simp [List.getD, hi]
  rw [e] at h
  simp [h]
def FiP (w : World) (room : Int) (l r : List (Int × Int)) (e : Ending) (w' : World) : Prop :=
  ∃ a n c, e = .returned (.tuple #[.agg #[.int .i64 room, .slice a n c], .int .i64 ((l.length : Int) - (r.length : Int))]) ∧ r.length = n ∧ n ≤ c ∧ LsT w' a r ∧ Kept [] w w'
set_option maxRecDepth 100000 in
set_option maxHeartbeats 12000000 in
theorem rfilter_any (a : Option Addr) (n c : Nat) (l : List (Int × Int)) (room d : Int) (w : World) (hl : Ls w a l) (hn : l.length = n) (h100 : n ≤ 100) (hd : 1 ≤ d) :
    Calls Try.prog 29 #[.agg #[.int .i64 room, .slice a n c], .int .i64 d] w (FiP w room l (l.filter (keepR d))) := by
  have hz := zeroQ
  have HL := hx hl
  have HN := hx hn
  have P0 := hx (show PuW w ((w.alloc (.cells #[.int .i64 room, .slice a n c] 41)).alloc (.cells #[.int .i64 0, .slice none 0 0] 41)) room (.slice a n c) from
    ⟨(Blk.new w [.int .i64 room, .slice a n c] 41).alloc _, by
      have h := Blk.new (w.alloc (.cells #[.int .i64 room, .slice a n c] 41)) [.int .i64 0, .slice none 0 0] 41
      rw [World.size_alloc] at h
      exact h, ((Kept.refl _ _).alloc _).alloc _⟩)
  generalize hPP : FiP w room l (l.filter (keepR d)) = PP at *
  have HPP := hx hPP
  clear hl hn hPP
  go_enter Try.func29, Try.ntmps29
  go_wp2_with fail
  generalize (w.alloc (.cells #[.int .i64 room, .slice a n c] 41)).alloc (.cells #[.int .i64 0, .slice none 0 0] 41) = W0 at *
  clear hz
  have hd0 : (d == 0) = false := by simp; omega
  have hd1 : d ≠ 0 := by omega
  go_loopw [6, 7] (fun ov iv wr => ∃ (i : Nat) (out : List (Int × Int)) (u : Value), i ≤ n ∧ iv = .int .i64 i ∧ u = ov ∧ out = (l.take i).filter (keepR d) ∧ wr.ownsRow (w.heap.size + 2) 49 2 u out.length (cl2 out) ∧ PuW w wr room (.slice a n c)) (fun _ iv _ => n - (intOf iv).toNat)
  case atStart => exact ⟨0, [], _, by omega, rfl, rfl, by simp, World.ownsRow_nil _ _ _ _, P0.out⟩
  case round =>
    clear P0
    obtain ⟨i, out, u, hi, rfl, rfl, hpi, ho, hp⟩ := hrel
    have HPI := hx hpi
    have HO := hx ho
    have HP := hx hp
    have HLN := hx (show out.length ≤ 101 by
      have h := List.length_filter_le (keepR d) (l.take i)
      rw [← hpi, List.length_take] at h
      omega)
    clear hpi ho hp
    have c1 := HP.out.b0.cell (i := 1) rfl
    by_cases hlt : i < n
    · have hli : (i : Int) < (n : Int) := by omega
      have hil : i < l.length := by have := HN.out; omega
      obtain ⟨g, off, rfl, e1, e2⟩ := (HL.out.kept HP.out.k) i hil
      cases hk : keepR d (l.getD i (0, 0))
      · have HI2 := hx (filt_no d l i hil hk)
        have hk2 : ((l.getD i (0, 0)).2.tmod d != 0) = false := hk
        clear hk
        generalize l.getD i (0, 0) = y at *
        obtain ⟨y1, y2⟩ := y
        simp only at hk2 e1 e2
        go_wp2
        go_roundw
        case rel => exact ⟨i + 1, out, u, by omega, by go_num, rfl, by rw [HI2.out]; exact HPI.out, HO.out, HP.out⟩
        case measure => simp [intOf] <;> omega
      · have HI2 := hx (filt_yes d l i hil hk)
        have hk2 : ((l.getD i (0, 0)).2.tmod d != 0) = true := hk
        clear hk
        generalize l.getD i (0, 0) = y at *
        obtain ⟨y1, y2⟩ := y
        simp only at hk2 e1 e2
        go_wp2_with (first
          | (at_builtin; refine wpList_app rfl (.tmp 25) (.tmp 31) 39 rfl (w.heap.size + 2) 49 (.agg #[.int .i64 0, .int .i64 0]) 2 16 infoIt2 Try.underlying39 rfl (by omega) u out.length (cl2 out) rfl (World.ownsRow.alloc HO.out _) (some ⟨_, 0, none⟩) 1 1 (ci2 (y1, y2)) rfl rfl (by simp) (by omega) (blk_news (Blk.new _ (ci2 (y1, y2)) 49)) (one_ci2 _) (by unfold maxLen; have := HLN.out; omega) (by have := HLN.out; omega) (HP.out.alloc _).size ?_; intro u2 w8 ho8 hg8; have HP8 := hx ((HP.out.alloc _).grown hg8 (fun q hq => (HO.out.lt q hq).1)); have HO8 := hx (own_push2 ho8); clear ho8 hg8))
        go_wp2
        go_roundw
        case rel => exact ⟨i + 1, out ++ [(y1, y2)], u2, by omega, by go_num, rfl, by rw [HI2.out, ← HPI.out], HO8.out, HP8.out⟩
        case measure => simp [intOf] <;> omega
    · obtain rfl : i = n := by omega
      obtain ⟨hlen, a2, c2, rfl, hcap, hL2⟩ := ls_form HO.out
      have HE := hx (show out = l.filter (keepR d) by rw [HPI.out, ← HN.out, List.take_length])
      have HCP := hx hcap
      have hol : out.length ≤ 101 := HLN.out
      have hf := HP.out.b0.free
      have B0 := hx (HP.out.b0.set 1 (.slice a2 out.length c2))
      have B1 := hx (HP.out.b1.set_ne (a := ⟨w.heap.size, 1, none⟩) (by simp) (.slice a2 out.length c2))
      have K1 := hx (HP.out.k.setCell (p := ⟨w.heap.size, 1, none⟩) (.inr (by simp)) (.slice a2 out.length c2))
      have O1 := hx (own_set HO.out ((Kept.refl [w.heap.size] wr).setCell (p := ⟨w.heap.size, 1, none⟩) (.inl (by simp)) (.slice a2 out.length c2)) (by omega))
      clear HO HP hL2 hcap hlen
      generalize hN : out.length = N at *
      have HNN := hx hN
      clear hN
      go_upto_region 9 with fail
      clear c1 hf
      generalize World.setCell _ _ _ = W2 at *
      go_wp2_with (first
        | refine load_blk rfl 41 (.tmp 2) rfl w.heap.size rfl 41 _ _ B0.out Try.underlying41 rfl infoQ ?_
        | (refine store_blk rfl 41 (.tmp 4) (.tmp 41) rfl (w.heap.size + 1) rfl 41 _ [.int .i64 room, .slice a2 N c2] rfl B1.out rfl infoQ (by intro x hx; simp at hx; rcases hx with rfl | rfl <;> rfl) ?_
           intro w9 hb9 hk9))
      refine bodyPost_ret (ret_blk2 rfl _ (w.heap.size + 1) _ _ _ _ rfl rfl hb9 Try.underlying41 rfl infoQ) rfl ?_
      rw [← HPP.out]
      refine ⟨a2, N, c2, ?_, by rw [← HE.out]; exact HNN.out, HCP.out, ?_, K1.out.trans hk9 (fun _ h => h) (fun x h => by simp at h; right; omega)⟩
      · rw [← HE.out, HNN.out, HN.out]; rfl
      · have h := own_set O1.out hk9 (by omega)
        rw [← HNN.out] at h
        rw [← HE.out]
        exact ls_formT h
end Go.Proofs.Ythpdoekeooedfaa
