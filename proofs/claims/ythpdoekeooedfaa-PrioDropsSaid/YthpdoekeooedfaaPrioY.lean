import Derived.Test.YthpdoekeooedfaaPrioX
namespace Go.Proofs.Ythpdoekeooedfaa
open Go Go.RowKit
def keepI (d : Int) (x : It) : Bool := keepB d x.v
set_option maxHeartbeats 800000 in
theorem keep_any (B : Nat) (x d : Int) (w : World) (hB : w.cell? ⟨B, 0, none⟩ = some (.int .i64 d)) (hd : 1 ≤ d) :
    Calls Try.prog 28 #[.int .i64 x, .pointer (some ⟨B, 0, none⟩)] w fun e w' => e = .returned (.bool (keepB d x)) ∧ w = w' := by
  have hd0 : (d == 0) = false := by simp; omega
  have hd1 : d ≠ 0 := by omega
  have z := hx (show keepB d x = (x.tmod d != 0) from rfl)
  go_enter Try.func28, Try.ntmps28
  go_wp2
  go_ret
  exact ⟨by rw [z.out]; rfl, rfl⟩
theorem cel_push (l : List It) (x : It) : cel (l ++ [x]) = cel l ++ itc x := by simp [cel]
theorem fil_yes (d : Int) (l : List It) (i : Nat) (hi : i < l.length) (h : keepI d (at_ l i) = true) : (l.take (i + 1)).filter (keepI d) = (l.take i).filter (keepI d) ++ [at_ l i] := by
  rw [List.take_add_one, List.getElem?_eq_getElem hi, List.filter_append]
  rw [at_get l i hi] at h ⊢
  simp [h]
theorem fil_no (d : Int) (l : List It) (i : Nat) (hi : i < l.length) (h : keepI d (at_ l i) = false) : (l.take (i + 1)).filter (keepI d) = (l.take i).filter (keepI d) := by
  rw [List.take_add_one, List.getElem?_eq_getElem hi, List.filter_append]
  rw [at_get l i hi] at h
  simp [h]
theorem one_itc (x : It) : ∀ u ∈ itc x, u.oneCell' = true := by
  intro u hu
  simp only [itc, List.mem_cons, List.not_mem_nil, or_false] at hu
  rcases hu with rfl | rfl | rfl <;> rfl
theorem own_push3 {w : World} {base : Nat} {e : TypeId} {v : Value} {out : List It} {x : It} (h : w.ownsRow base e 3 v (out.length + 1) (cel out ++ itc x)) : w.ownsRow base e 3 v (out ++ [x]).length (cel (out ++ [x])) := by
  rw [cel_push, List.length_append]
  exact h
theorem zeroI3 (w : World) : (zeroValue 55).run Try.prog w = .ok (.agg #[.int .i64 0, .int .i64 0, .int .i64 0]) w := by kernel_rfl
def FilP (w : World) (q : Nat) (room turns d : Int) (h : List It) (e : Ending) (w' : World) : Prop :=
  ∃ v, e = .returned (.int .i64 ((h.length : Int) - ((h.filter (keepI d)).length : Int))) ∧ Qs w' q v room turns (fixL (h.filter (keepI d)) ((h.filter (keepI d)).length / 2)) ∧ (∀ g, v.ownBlock = some g → w.heap.size ≤ g) ∧ Kept [q] w w'
set_option maxRecDepth 100000 in
set_option maxHeartbeats 12000000 in
theorem filter_any (q B : Nat) (v : Value) (room turns d : Int) (h : List It) (w : World) (s : Qs w q v room turns h) (hB : w.cell? ⟨B, 0, none⟩ = some (.int .i64 d)) (hd : 1 ≤ d) (hb : h.length ≤ 1000) :
    Calls Try.prog 27 #[.pointer (some ⟨q, 0, none⟩), .func (.func 28) #[] #[.pointer (some ⟨B, 0, none⟩)]] w (FilP w q room turns d h) := by
  have hz := zeroI3
  have c2 := s.hq.cell (i := 2) rfl
  obtain ⟨a, c, rfl⟩ := own_slice s.own
  generalize hPP : FilP w q room turns d h = PP at *
  have HPP := hx hPP
  have HS := hx s
  have HB := hx hB
  have hgen : ∃ n, n = h.length := ⟨_, rfl⟩
  obtain ⟨n, hn⟩ := hgen
  have HN := hx hn
  rw [← hn] at c2 hb
  have hfun : a = none ∨ ∃ g, a = some ⟨g, 0, none⟩ := by
    rcases s.own.2 with ⟨h1, _⟩ | ⟨g, cap, cur, h1, _⟩
    · simp at h1; exact .inl h1.1
    · simp at h1; exact .inr ⟨g, h1.1⟩
  clear s hB hPP
  have HFN := hx hfun
  clear hfun
  rw [← hn] at HS
  clear hn
  go_enter Try.func27, Try.ntmps27
  go_wp2
  go_loopw [5, 15] (fun ov iv wr => ∃ (i : Nat) (out : List It) (u : Value), i ≤ n ∧ iv = .int .i64 i ∧ u = ov ∧ out = (h.take i).filter (keepI d) ∧ wr.ownsRow w.heap.size 55 3 u out.length (cel out) ∧ Kept [] w wr) (fun _ iv _ => n - (intOf iv).toNat)
  case atStart => exact ⟨0, [], _, by omega, rfl, rfl, by simp, World.ownsRow_nil _ _ _ _, Kept.refl _ _⟩
  case round =>
    clear c2
    obtain ⟨i, out, u, hi, rfl, rfl, hpi, ho, hk⟩ := hrel
    have HPI := hx hpi
    have HO := hx ho
    have HK := hx hk
    have HLN := hx (show out.length ≤ 1000 by
      have g := List.length_filter_le (keepI d) (h.take i)
      rw [← hpi, List.length_take] at g
      omega)
    clear hpi ho hk
    by_cases hlt : i < n
    · have hli : (i : Int) < (n : Int) := by omega
      have hih : i < h.length := by have g := HN.out; omega
      obtain ⟨g, cap, rest, he, m⟩ := HS.out.toQm (by omega)
      simp only [Value.slice.injEq] at he
      obtain ⟨rfl, hnn, rfl⟩ := he
      clear hnn
      obtain ⟨e0, e1, e2⟩ := (m.kept HK.out).at i hih
      have HX := hx (Blk.new wr (itc (at_ h i)) 55)
      have HOA := hx (World.ownsRow.alloc HO.out (.cells (itc (at_ h i)).toArray 55))
      have HKA := hx (HK.out.alloc (.cells (itc (at_ h i)).toArray 55))
      have HKC := hx (keep_any B (at_ h i).v d (wr.alloc (.cells (itc (at_ h i)).toArray 55)) (kept_cell HKA.out HB.out) hd)
      have HIT := hx (show itc (at_ h i) = [.int .i64 (at_ h i).rank, .int .i64 (at_ h i).turn, .int .i64 (at_ h i).v] from rfl)
      clear m
      cases hkp : keepI d (at_ h i)
      · have HI2 := hx (fil_no d h i hih hkp)
        have hkp2 : keepB d (at_ h i).v = false := hkp
        rw [hkp2] at HKC
        clear hkp hkp2
        generalize at_ h i = x at *
        obtain ⟨x1, x2, x3⟩ := x
        simp only at e0 e1 e2
        go_upto_region 5 with fail
        clear e0 e1 e2
        have c2 := HX.out.cell (i := 2) (v := .int .i64 x3) rfl
        go_wp2_with fail
        refine HKC.out.mono ?_
        rintro e w4 ⟨rfl, rfl⟩
        clear c2 HX HOA
        go_wp2
        go_roundw
        case rel => exact ⟨i + 1, out, u, by omega, by go_num, rfl, by rw [HI2.out]; exact HPI.out, World.ownsRow.alloc HO.out _, HKA.out⟩
        case measure => simp [intOf] <;> omega
      · have HI2 := hx (fil_yes d h i hih hkp)
        have hkp2 : keepB d (at_ h i).v = true := hkp
        rw [hkp2] at HKC
        clear hkp hkp2
        generalize at_ h i = x at *
        obtain ⟨x1, x2, x3⟩ := x
        simp only at e0 e1 e2
        go_upto_region 5 with fail
        clear e0 e1 e2
        have c0 := HX.out.cell (i := 0) (v := .int .i64 x1) rfl
        have c1 := HX.out.cell (i := 1) (v := .int .i64 x2) rfl
        have c2 := HX.out.cell (i := 2) (v := .int .i64 x3) rfl
        go_wp2_with fail
        refine HKC.out.mono ?_
        rintro e w4 ⟨rfl, rfl⟩
        generalize wr.alloc (.cells (itc ⟨x1, x2, x3⟩).toArray 55) = W4 at *
        have HOB := HOA
        have HKB := HKA
        have HXB := HX
        clear HX HOA HKA
        go_wp2_with (first
          | (at_builtin; refine wpList_app rfl (.tmp 23) (.tmp 25) 51 rfl w.heap.size 55 (.agg #[.int .i64 0, .int .i64 0, .int .i64 0]) 3 24 infoIt3' Try.underlying51 rfl (by omega) u out.length (cel out) rfl (World.ownsRow.alloc HOB.out _) (some ⟨_, 0, none⟩) 1 1 (itc ⟨x1, x2, x3⟩) rfl rfl (by simp) (by omega) (blk_news (Blk.new _ (itc ⟨x1, x2, x3⟩) 55)) (one_itc _) (by unfold maxLen; have := HLN.out; omega) (by have := HLN.out; omega) (HKB.out.alloc _).size ?_; intro u2 w8 ho8 hg8; have HK8 := hx ((HKB.out.alloc _).grown hg8 (fun k hk => .inr (HOB.out.lt k hk).1)); have HO8 := hx (own_push3 ho8); clear ho8 hg8))
        go_wp2
        go_roundw
        case rel => exact ⟨i + 1, out ++ [⟨x1, x2, x3⟩], u2, by omega, by go_num, rfl, by rw [HI2.out, ← HPI.out], HO8.out, HK8.out⟩
        case measure => simp [intOf] <;> omega
    · obtain rfl : i = n := by omega
      obtain ⟨a2, c2, rfl⟩ := own_slice HO.out
      have HE := hx (show out = h.filter (keepI d) by rw [HPI.out, HN.out, List.take_length])
      have hq0 := HK.out.blk HS.out.hq (by simp)
      have e2 := hq0.cell (i := 2) rfl
      have hf := hq0.free
      have hol : out.length ≤ 1000 := HLN.out
      have HUB := hx (fun g hg => (HO.out.lt g hg).1)
      have HQS := hx (show Qs (wr.setCell ⟨q, 2, none⟩ (.slice a2 out.length c2)) q (.slice a2 out.length c2) room turns out from
        ⟨hq0.set 2 (.slice a2 out.length c2), (World.ownsRow.kept HO.out (Kept.toGrown ((Kept.refl [q] wr).setCell (p := ⟨q, 2, none⟩) (.inl (by simp)) (.slice a2 out.length c2))) (by
            rcases hv : Value.ownBlock (.slice a2 out.length c2) with _ | k
            · exact .inl rfl
            · refine .inr ?_
              have g1 := (HO.out.lt k hv).1
              have g2 := HS.out.hq.lt
              intro e1
              simp only [Option.some.injEq] at e1
              omega)).mono (Nat.zero_le _), fun e => by
            have g1 := (HO.out.lt q e).1
            have g2 := HS.out.hq.lt
            omega⟩)
      have HK2 := hx ((HK.out.mono (cs := [q]) (fun x hx => by simp at hx)).setCell (p := ⟨q, 2, none⟩) (.inl (by simp)) (.slice a2 out.length c2))
      clear hq0 HO HK HPI HLN
      generalize hNN : out.length = N at *
      have HNN := hx hNN
      clear hNN
      go_upto_region 10 with fail
      clear e2 hf
      generalize World.setCell _ _ _ = W2 at *
      have e2 := HQS.out.hq.cell (i := 2) rfl
      go_wp2
      go_loopw [9] (fun iv wr => ∃ (k : Nat) (h2 : List It) (j : Int), iv = .int .i64 j ∧ j = (k : Int) - 1 ∧ k ≤ N / 2 ∧ h2.length = N ∧ fixL h2 k = fixL out (N / 2) ∧ Qs wr q (.slice a2 N c2) room turns h2 ∧ Kept [q] w wr) (fun iv _ => (intOf iv + 1).toNat)
      case atStart => exact ⟨N / 2, out, _, rfl, by omega, by omega, HNN.out, rfl, HQS.out, HK2.out⟩
      case round =>
        clear HQS HK2 e2
        obtain ⟨k, h2, j, rfl, hj, hk, hl2, hfx, hqs, hk2⟩ := hrel
        have HF := hx hfx
        have HKK := hx hk2
        have HL2 := hx hl2
        cases k with
        | zero =>
          obtain rfl : j = -1 := by omega
          have HQ2 := hx hqs
          clear hj
          clear hfx hk2 hqs hl2
          go_wp2
          rw [← HPP.out]
          refine ⟨.slice a2 N c2, ?_, ?_, HUB.out, HKK.out⟩
          · rw [← HE.out, HNN.out, ← HN.out]; rfl
          · rw [← HE.out, HNN.out, ← HF.out]; exact HQ2.out
        | succ k =>
          obtain rfl : j = (k : Int) := by omega
          clear hj
          obtain ⟨g, cap, rest, he, m⟩ := hqs.toQm (by omega)
          have HD := hx (down_any q g cap k room turns h2 rest wr m (by omega) (by omega))
          have HGE := hx (show w.heap.size ≤ g from HUB.out g (by rw [he]; rfl))
          have HEE := hx he
          have HLN2 := hx (down_len h2.length h2 k (by omega))
          clear hfx hk2 hqs hl2 he m
          go_wp2_with fail
          refine HD.out.mono ?_
          rintro e w4 ⟨rfl, m4, hk4⟩
          have HQ4 := hx (show Qs w4 q (.slice a2 N c2) room turns (downL h2 k) by
            have g1 := m4.toQs
            rw [HLN2.out, ← HEE.out] at g1
            exact g1)
          have HK4 := hx (HKK.out.trans hk4 (fun _ h => h) (fun x h => by simp at h; subst h; exact .inr HGE.out))
          clear m4 hk4 HD
          go_wp2
          go_roundw
          case rel => exact ⟨k, downL h2 k, (k : Int) - 1, by go_num, rfl, by omega, by rw [HLN2.out]; exact HL2.out, HF.out, HQ4.out, HK4.out⟩
          case measure => simp [intOf] <;> omega
end Go.Proofs.Ythpdoekeooedfaa
