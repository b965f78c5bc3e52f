/- The document's timer: Tick. -/
import Derived.Test.YthcbacflopbkdaaTmK
namespace Go.Proofs.Ythcbacflopbkdaa
open Go Go.RowKit
def Iz (w : World) (a : Option Addr) (l : List Int) : Prop := ∀ i, i < l.length → ∃ g off, a = some ⟨g, off, none⟩ ∧ w.cell? ⟨g, off + i, none⟩ = some (.int .i64 (l.getD i 0))
def iz1 (l : List Int) : List Value := l.map (fun x => Value.int .i64 x)
theorem iz1_snoc (l : List Int) (x : Int) : iz1 (l ++ [x]) = iz1 l ++ [.int .i64 x] := by simp [iz1]
/-- .. in a block of numbers. -/
structure IzT (w : World) (a : Option Addr) (l : List Int) : Prop where
  cell : Iz w a l
  blk : l ≠ [] → ∃ g off xs, a = some ⟨g, off, none⟩ ∧ Blk w g xs 3
theorem IzT.kept {w w2 : World} {a : Option Addr} {l : List Int} (h : IzT w a l) (hk : Kept [] w w2) : IzT w2 a l :=
  ⟨fun i hi => by
    obtain ⟨g, off, h1, h2⟩ := h.cell i hi
    exact ⟨g, off, h1, kept_c2 hk h2⟩, fun hl => by
    obtain ⟨g, off, xs, h1, h2⟩ := h.blk hl
    exact ⟨g, off, xs, h1, hk.blk h2 (by simp)⟩⟩
theorem IzT.frame {w w2 : World} {bs : List Nat} {a : Option Addr} {l : List Int} (h : IzT w a l) (hk : Kept bs w w2) (hb : ∀ b, b ∈ bs → ∀ xs, ¬ Blk w b xs 3) : IzT w2 a l := by
  have hne : l ≠ [] → ∃ g off xs, a = some ⟨g, off, none⟩ ∧ Blk w g xs 3 ∧ g ∉ bs := fun hl => by
    obtain ⟨g, off, xs, h1, h2⟩ := h.blk hl
    exact ⟨g, off, xs, h1, h2, fun hc => hb g hc xs h2⟩
  refine ⟨fun i hi => ?_, fun hl => ?_⟩
  · obtain ⟨g, off, h1, h2⟩ := h.cell i hi
    obtain ⟨g', off', xs, h4, _, h6⟩ := hne (by intro e; rw [e] at hi; simp at hi)
    rw [h1] at h4
    simp only [Option.some.injEq, Addr.mk.injEq, and_true] at h4
    obtain ⟨rfl, rfl⟩ := h4
    exact ⟨g, off, h1, by rw [hk.cell (block_lt_of_cell h2) h6]; exact h2⟩
  · obtain ⟨g, off, xs, h1, h2, h3⟩ := hne hl
    exact ⟨g, off, xs, h1, hk.blk h2 h3⟩
theorem iz_form {w : World} {base : Nat} {v : Value} {n : Nat} {l : List Int} (h : w.ownsRow base 3 1 v n (iz1 l)) : l.length = n ∧ ∃ a cap, v = .slice a n cap ∧ n ≤ cap ∧ IzT w a l := by
  have hl := h.1
  simp only [iz1, List.length_map, Nat.mul_one] at hl
  refine ⟨hl, ?_⟩
  rcases h.2 with ⟨rfl, rfl⟩ | ⟨g, cap, cur, rfl, hb, hg, hnc, hcm, hcs, htake⟩
  · exact ⟨none, 0, rfl, by omega, fun i hi => by omega, fun hne => absurd (List.eq_nil_of_length_eq_zero hl) hne⟩
  · refine ⟨_, cap, rfl, hnc, fun i hi => ⟨g, 0, rfl, ?_⟩, fun _ => ⟨g, 0, cur.toList, rfl, hg⟩⟩
    rw [Nat.zero_add, h.cellAt i (by omega)]
    simp [iz1, List.getD, hi]
theorem infoIz : (Try.prog.info? 3).map (fun i => (i.zero, i.size, i.bytes)) = some (some (.int .i64 0), 1, 8) := by kernel_rfl
def cameR (now : Int) (l : List (Int × Int)) : List Int := (l.filter (fun y => decide (y.2 ≤ now))).map (·.1)
def leftR (now : Int) (l : List (Int × Int)) : List (Int × Int) := l.filter (fun y => !decide (y.2 ≤ now))
theorem tk_yes (now : Int) (l : List (Int × Int)) (i : Nat) (hi : i < l.length) (h : (l.getD i (0, 0)).2 ≤ now) : cameR now (l.take (i + 1)) = cameR now (l.take i) ++ [(l.getD i (0, 0)).1] ∧ leftR now (l.take (i + 1)) = leftR now (l.take i) := by
  unfold cameR leftR
  rw [List.take_add_one, List.getElem?_eq_getElem hi, List.filter_append, List.filter_append]
  have e : l.getD i (0, 0) = l[i] := by simp [List.getD, hi]
  rw [e] at h ⊢
  simp [h]
theorem tk_no (now : Int) (l : List (Int × Int)) (i : Nat) (hi : i < l.length) (h : ¬ (l.getD i (0, 0)).2 ≤ now) : cameR now (l.take (i + 1)) = cameR now (l.take i) ∧ leftR now (l.take (i + 1)) = leftR now (l.take i) ++ [l.getD i (0, 0)] := by
  unfold cameR leftR
  rw [List.take_add_one, List.getElem?_eq_getElem hi, List.filter_append, List.filter_append]
  have e : l.getD i (0, 0) = l[i] := by simp [List.getD, hi]
  rw [e] at h ⊢
  simp [h]
theorem came_len (now : Int) (l : List (Int × Int)) : (cameR now l).length ≤ l.length := by unfold cameR; rw [List.length_map]; exact List.length_filter_le _ _
theorem left_len (now : Int) (l : List (Int × Int)) : (leftR now l).length ≤ l.length := List.length_filter_le _ _
def TiP (w : World) (room now : Int) (l : List (Int × Int)) (e : Ending) (w' : World) : Prop :=
  ∃ a n c b m d, e = .returned (.tuple #[.agg #[.int .i64 room, .int .i64 now, .slice a n c], .slice b m d]) ∧ (leftR now l).length = n ∧ n ≤ c ∧ L2 w' 46 a (leftR now l) ∧ (cameR now l).length = m ∧ IzT w' b (cameR now l) ∧ Kept [] w w'
theorem push_iz {w : World} {base : Nat} {e : TypeId} {v : Value} {out : List Int} {x : Int} (h : w.ownsRow base e 1 v (out.length + 1) (iz1 out ++ [.int .i64 x])) : w.ownsRow base e 1 v (out ++ [x]).length (iz1 (out ++ [x])) := by
  rw [iz1_snoc, List.length_append]
  exact h
/-- A slice of another type stays, while one grows. -/
theorem own_other {w w8 : World} {base size k : Nat} {e e2 : TypeId} {v u : Value} {n : Nat} {xs : List Value} {zs : List Value} {o : Obj} {size2 : Nat} (h : w.ownsRow base e size v n xs) (hg : (w.alloc o).grownBy w8 u.ownBlock) (hu : w.ownsRow base e2 size2 u k zs) (hT : e ≠ e2) : w8.ownsRow base e size v n xs := by
  refine ⟨h.1, ?_⟩
  rcases h.2 with hn | ⟨g, cap, cur, rfl, hb, hc, rest⟩
  · exact .inl hn
  · refine .inr ⟨g, cap, cur, rfl, hb, ?_, rest⟩
    have hlt := (Array.getElem?_eq_some_iff.1 hc).1
    have hc1 : (w.alloc o).heap[g]? = some (.cells cur e (0, 0)) := by rw [Below.heap_alloc _ _ _ hlt]; exact hc
    rw [hg.block g (by simp; omega) (fun e1 => ?_)]
    · exact hc1
    · rcases hu.2 with ⟨rfl, _⟩ | ⟨g', cap', cur', rfl, _, hg', _⟩
      · simp [Value.ownBlock] at e1
      · simp [Value.ownBlock] at e1
        subst e1
        rw [hc] at hg'
        simp only [Option.some.injEq, Obj.cells.injEq] at hg'
        exact hT hg'.2.1
set_option maxRecDepth 100000 in
set_option maxHeartbeats 12000000 in
theorem rtick_any (a : Option Addr) (n c : Nat) (l : List (Int × Int)) (room now ticks : Int) (w : World) (hl : L2 w 46 a l) (hn : l.length = n) (h100 : n ≤ 1000) (hw0 : 0 ≤ now) (hw1 : now ≤ 1099511627776) :
    Calls Try.prog 29 #[.agg #[.int .i64 room, .int .i64 now, .slice a n c], .int .i64 ticks] w (TiP w room (nowT now ticks) l) := by
  have hz := zeroRSet
  have HL := hx hl
  have HN := hx hn
  have HW := hx (And.intro hw0 hw1)
  have P0 := hx (Bx2.new w 34 (set3 room now (.slice a n c)) (set3 0 0 (.slice none 0 0)))
  have hs1 : IntKind.i64.wrap (1099511627776 - now) = 1099511627776 - now := IntWalk.i64_in _ (by omega)
  generalize hN : nowT now ticks = N at *
  have HNT := hx hN
  have HNM := hx (show N = if 0 < min ticks (1099511627776 - now) then now + min ticks (1099511627776 - now) else now by rw [← hN]; unfold nowT; split <;> omega)
  have HSM := hx (show 0 < min ticks (1099511627776 - now) → wrap64 (now + min ticks (1099511627776 - now)) = now + min ticks (1099511627776 - now) from fun _ => by unfold wrap64; omega)
  generalize hPP : TiP w room N l = PP at *
  have HPP := hx hPP
  clear hl hn hPP hw0 hw1 hN
  go_enter Try.func29, Try.ntmps29
  go_upto_region 1 with fail
  generalize (w.alloc (.cells #[.int .i64 room, .int .i64 now, .slice a n c] 34)).alloc (.cells #[.int .i64 0, .int .i64 0, .slice none 0 0] 34) = W0 at *
  clear hz
  have a1 := P0.out.b0.cell (i := 1) rfl
  have hf := P0.out.b0.free
  go_upto_if 13 with fail
  go_cut [1] (fun s1 wx => s1 = .int .i64 (min ticks (1099511627776 - now)) ∧ wx = W0)
  case first =>
    go_wp2_with fail
    all_goals
      go_meet
      clear hs1
      refine ⟨?_, rfl⟩
      congr 1
      omega
  case rest =>
    obtain ⟨rfl, rfl⟩ := hcut
    generalize min ticks (1099511627776 - now) = tk at *
    clear hs1
    go_upto_if 18 with fail
    go_cut [19] (fun _ wx => Bx2 w wx 34 (set3 room N (.slice a n c)) (set3 0 0 (.slice none 0 0)))
    case first =>
      have HWR := hx (show 0 < tk → wrap64 (now + tk) = N from fun h => by rw [HNM.out, if_pos h]; exact HSM.out h)
      have HWN := hx (show ¬ 0 < tk → N = now from fun h => by rw [HNM.out, if_neg h])
      have HB := hx (fun m => P0.out.b0.set 1 (.int .i64 m))
      have HB1 := hx (fun m => P0.out.b1.set_ne (a := ⟨w.heap.size, 1, none⟩) (by simp) (.int .i64 m))
      have HK := hx (fun m => P0.out.k.setCell (p := ⟨w.heap.size, 1, none⟩) (.inr (by simp)) (.int .i64 m))
      go_wp2_with fail
      · go_meet
        rw [HWR.out (by assumption)]
        exact ⟨HB.out N, HB1.out N, HK.out N⟩
      · go_meet
        rw [HWN.out (by omega)]
        exact P0.out
    case rest =>
      have P1 := hx hcut
      clear hcut P0 a1 hf HNM HSM
      go_wp2_with fail
      go_loopw [6, 7, 8] (fun cv ov iv wr => ∃ (i : Nat) (cm : List Int) (out : List (Int × Int)) (u v : Value), i ≤ n ∧ iv = .int .i64 i ∧ u = cv ∧ v = ov ∧ cm = cameR N (l.take i) ∧ out = leftR N (l.take i) ∧ wr.ownsRow (w.heap.size + 2) 3 1 u cm.length (iz1 cm) ∧ wr.ownsRow (w.heap.size + 2) 46 2 v out.length (cl2 out) ∧ Bx2 w wr 34 (set3 room N (.slice a n c)) (set3 0 0 (.slice none 0 0))) (fun _ _ iv _ => n - (intOf iv).toNat)
      case atStart => exact ⟨0, [], [], _, _, by omega, rfl, rfl, rfl, by simp [cameR], by simp [leftR], World.ownsRow_nil _ _ _ _, World.ownsRow_nil _ _ _ _, P1.out⟩
      case round =>
        clear P1
        obtain ⟨i, cm, out, u, v, hi, rfl, hu, hv, hcm, hout, ho, hov, hp⟩ := hrel
        subst hu
        subst hv
        have HCM := hx hcm
        have HOT := hx hout
        have HO := hx ho
        have HV := hx hov
        have HP := hx hp
        have HLN := hx (show cm.length ≤ 1001 ∧ out.length ≤ 1001 by
          have h1 := came_len N (l.take i)
          have h2 := left_len N (l.take i)
          rw [← hcm, List.length_take] at h1
          rw [← hout, List.length_take] at h2
          omega)
        clear hcm hout ho hov hp
        have c2 := HP.out.b0.cell (i := 2) rfl
        have c1 := HP.out.b0.cell (i := 1) rfl
        by_cases hlt : i < n
        · have hli : (i : Int) < (n : Int) := by omega
          have hi0 : (0 : Int) ≤ (i : Int) := by omega
          have hil : i < l.length := by have := HN.out; omega
          obtain ⟨g, off, rfl, e1, e2⟩ := (HL.out.kept HP.out.k).cell i hil
          by_cases hy : (l.getD i (0, 0)).2 ≤ N
          · have HI2 := hx (tk_yes N l i hil hy)
            generalize l.getD i (0, 0) = y at *
            obtain ⟨y1, y2⟩ := y
            simp only at hy e1 e2
            have hyd := decide_eq_true hy
            clear hy
            go_wp2_with fail
            go_quiet (fail)
            have HQ := hx ((Kept.refl [] wr).drewN nq)
            have HO := hx (own_set HO.out HQ.out (by simp))
            have HV := hx (own_set HV.out HQ.out (by simp))
            have HP := hx (HP.out.kept HQ.out)
            have e1 := kept_c2 HQ.out e1
            have e2 := kept_c2 HQ.out e2
            have c2 := kept_c2 HQ.out c2
            clear HQ
            generalize wr.drewN nq = wq at *
            go_wp2_with (first
              | (at_builtin; refine wpList_app rfl (.tmp 40) (.tmp 47) 51 rfl (w.heap.size + 2) 3 (.int .i64 0) 1 8 infoIz Try.underlying51 rfl (by omega) u cm.length (iz1 cm) rfl (World.ownsRow.alloc HO.out _) (some ⟨_, 0, none⟩) 1 1 [.int .i64 y1] rfl rfl (by simp) (by omega) (news2 (Blk.new _ [.int .i64 y1] 3)) (by intro v hv; simp at hv; subst hv; rfl) (by unfold maxLen; have := HLN.out; omega) (by have := HLN.out; omega) (HP.out.alloc _).size ?_; intro u2 w8 ho8 hg8; have HP8 := hx ((HP.out.alloc _).grown hg8 (fun q hq => (HO.out.lt q hq).1)); have HO8 := hx (push_iz ho8); have HV8 := hx (own_other HV.out hg8 HO.out (by decide)); clear ho8 hg8))
            go_wp2
            go_roundw
            case rel => exact ⟨i + 1, cm ++ [y1], out, u2, v, by omega, by go_num, rfl, rfl, by rw [HI2.out.1, ← HCM.out], by rw [HI2.out.2, ← HOT.out], HO8.out, HV8.out, HP8.out⟩
            case measure => simp [intOf] <;> omega
          · have HI2 := hx (tk_no N l i hil hy)
            generalize l.getD i (0, 0) = y at *
            obtain ⟨y1, y2⟩ := y
            simp only at hy e1 e2
            have hyd := decide_eq_false hy
            clear hy
            go_wp2_with fail
            go_quiet (fail)
            have HQ := hx ((Kept.refl [] wr).drewN nq)
            have HO := hx (own_set HO.out HQ.out (by simp))
            have HV := hx (own_set HV.out HQ.out (by simp))
            have HP := hx (HP.out.kept HQ.out)
            have e1 := kept_c2 HQ.out e1
            have e2 := kept_c2 HQ.out e2
            have c2 := kept_c2 HQ.out c2
            clear HQ
            generalize wr.drewN nq = wq at *
            go_wp2_with (first
              | (at_builtin; refine wpList_app rfl (.tmp 49) (.tmp 55) 32 rfl (w.heap.size + 2) 46 (.agg #[.int .i64 0, .int .i64 0]) 2 16 infoRun Try.underlying32 rfl (by omega) v out.length (cl2 out) rfl (World.ownsRow.alloc HV.out _) (some ⟨_, 0, none⟩) 1 1 (ci2 (y1, y2)) rfl rfl (by simp) (by omega) (news2 (Blk.new _ (ci2 (y1, y2)) 46)) (one_ci2 _) (by unfold maxLen; have := HLN.out; omega) (by have := HLN.out; omega) (HP.out.alloc _).size ?_; intro v2 w8 ho8 hg8; have HP8 := hx ((HP.out.alloc _).grown hg8 (fun q hq => (HV.out.lt q hq).1)); have HV8 := hx (own_push2 ho8); have HO8 := hx (own_other HO.out hg8 HV.out (by decide)); clear ho8 hg8))
            go_wp2
            go_roundw
            case rel => exact ⟨i + 1, cm, out ++ [(y1, y2)], u, v2, by omega, by go_num, rfl, rfl, by rw [HI2.out.1, ← HCM.out], by rw [HI2.out.2, ← HOT.out], HO8.out, HV8.out, HP8.out⟩
            case measure => simp [intOf] <;> omega
        · obtain rfl : i = n := by omega
          obtain ⟨hlen, a2, c2', rfl, hcap, hL2⟩ := l2_own HV.out
          obtain ⟨hlen3, b2, d2, rfl, hcap3, hI3⟩ := iz_form HO.out
          have HE := hx (show out = leftR N l by rw [HOT.out, ← HN.out, List.take_length])
          have HF := hx (show cm = cameR N l by rw [HCM.out, ← HN.out, List.take_length])
          have HCP := hx hcap
          have hf := HP.out.b0.free
          have B0 := hx (HP.out.b0.set 2 (.slice a2 out.length c2'))
          have B1 := hx (HP.out.b1.set_ne (a := ⟨w.heap.size, 2, none⟩) (by simp) (.slice a2 out.length c2'))
          have K1 := hx (HP.out.k.setCell (p := ⟨w.heap.size, 2, none⟩) (.inr (by simp)) (.slice a2 out.length c2'))
          have O1 := hx (own_set HV.out ((Kept.refl [w.heap.size] wr).setCell (p := ⟨w.heap.size, 2, none⟩) (.inl (by simp)) (.slice a2 out.length c2')) (by simp))
          have O2 := hx (own_set HO.out ((Kept.refl [w.heap.size] wr).setCell (p := ⟨w.heap.size, 2, none⟩) (.inl (by simp)) (.slice a2 out.length c2')) (by simp))
          clear HO HV HP hL2 hcap hlen hlen3 hcap3 hI3 HL
          go_upto_region 14 with fail
          clear c2 c1 hf
          generalize World.setCell _ _ _ = W2 at *
          go_wp2_with (first
            | refine load_blk rfl 34 (.tmp 2) rfl w.heap.size rfl 34 _ _ B0.out Try.underlying34 rfl infoSet ?_
            | (refine store_blk rfl 34 (.tmp 4) (.tmp 59) rfl (w.heap.size + 1) rfl 34 _ (set3 room N (.slice a2 out.length c2')) rfl B1.out rfl infoSet (by intro x hx; simp at hx; rcases hx with rfl | rfl | rfl <;> rfl) ?_
               intro w9 hb9 hk9))
          refine bodyPost_ret (ret_blk2 rfl _ (w.heap.size + 1) _ _ _ _ rfl rfl hb9 Try.underlying34 rfl infoSet) rfl ?_
          rw [← HPP.out]
          have h := own_set O1.out hk9 (by simp)
          have h2 := own_set O2.out hk9 (by simp)
          obtain ⟨_, a', c', he, _, hr⟩ := l2_own h
          obtain ⟨_, b', d', he2, _, hr2⟩ := iz_form h2
          simp only [Value.slice.injEq] at he he2
          obtain ⟨rfl, _, rfl⟩ := he
          obtain ⟨rfl, _, rfl⟩ := he2
          rw [HE.out] at hr
          rw [HF.out] at hr2
          exact ⟨a2, out.length, c2', b2, cm.length, d2, rfl, by rw [← HE.out], HCP.out, hr, by rw [← HF.out], hr2, K1.out.trans hk9 (fun _ h => h) (fun x h => by simp at h; right; omega)⟩
end Go.Proofs.Ythcbacflopbkdaa
