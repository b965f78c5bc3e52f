/- The document's nack: Has, put. -/
import Derived.Test.YteobkcmfpmolmaaL3
import Derived.Test.YteobkcmfpmolmaaTmKk
import Derived.Deep.DeepCutAuto
import Derived.BigQuiet
import Derived.Deep.QuietTactic
namespace Go.Proofs.Yteobkcmfpmolmaa
open Go Go.RowKit
theorem infoItem : (Try.prog.info? 56).map (fun i => (i.zero, i.size, i.bytes)) = some (some (.agg #[.int .u32 0, .int .i64 0, .int .i64 0]), 3, 24) := by kernel_rfl
theorem infoList : (Try.prog.info? 27).map (·.size) = some 4 := by kernel_rfl
theorem infoItem3 : (Try.prog.info? 56).map (·.size) = some 3 := by kernel_rfl
theorem zeroRList (w : World) : (zeroValue 27).run Try.prog w = .ok (.agg #[.int .i64 0, .int .i64 0, .int .i64 0, .slice none 0 0]) w := by kernel_rfl
abbrev ls4 (room asked full : Int) (v : Value) : List Value := [.int .i64 room, .int .i64 asked, .int .i64 full, v]
def hasN (k : Int) (l : List It) : Bool := l.any (fun y => y.1 == k)
theorem has_step (k : Int) (l : List It) (i : Nat) (hi : i < l.length) : hasN k (l.take (i + 1)) = (hasN k (l.take i) || (l.getD i it0).1 == k) := by
  unfold hasN
  rw [List.take_add_one, List.getElem?_eq_getElem hi, List.any_append]
  have e : l.getD i it0 = l[i] := by simp [List.getD, hi]
  rw [e]
  simp
theorem has_true (k : Int) (l : List It) (i : Nat) (h : hasN k (l.take i) = true) : hasN k l = true := by
  unfold hasN at *
  rw [List.any_eq_true] at *
  obtain ⟨x, hx, h2⟩ := h
  exact ⟨x, List.mem_of_mem_take hx, h2⟩
set_option maxRecDepth 100000 in
set_option maxHeartbeats 3200000 in
theorem rhas_any (a : Option Addr) (n c : Nat) (l : List It) (room asked full k : Int) (w : World) (hl : L3 w 56 a l) (hn : l.length = n) (h100 : n ≤ 1000) :
    Calls Try.prog 8 #[.agg #[.int .i64 room, .int .i64 asked, .int .i64 full, .slice a n c], .int .u32 k] w fun e w' => e = .returned (.bool (hasN k l)) ∧ Kept [] w w' := by
  have HL := hx hl
  have HN := hx hn
  have P0 := hx (Blk.new w (ls4 room asked full (.slice a n c)) 27)
  have K0 := hx ((Kept.refl [] w).alloc (.cells #[.int .i64 room, .int .i64 asked, .int .i64 full, .slice a n c] 27))
  clear hl hn
  go_enter Try.func8, Try.ntmps8
  go_wp2_with fail
  generalize w.alloc (.cells #[.int .i64 room, .int .i64 asked, .int .i64 full, .slice a n c] 27) = W0 at *
  have c3 := P0.out.cell (i := 3) rfl
  have HL0 := hx (HL.out.kept K0.out)
  go_loopw [5] (fun iv wr => ∃ (i : Nat), i ≤ n ∧ iv = .int .i64 i ∧ hasN k (l.take i) = false ∧ wr = W0) (fun iv _ => n - (intOf iv).toNat)
  case atStart => exact ⟨0, by omega, rfl, by simp [hasN], rfl⟩
  case round =>
    obtain ⟨i, hi, rfl, hh, rfl⟩ := hrel
    have HH := hx hh
    clear hh
    by_cases hlt : i < n
    · have hli : (i : Int) < (n : Int) := by omega
      have hil : i < l.length := by have := HN.out; omega
      obtain ⟨g, off, rfl, e1, _, _⟩ := HL0.out.cell i hil
      have HS := hx (has_step k l i hil)
      cases hk : ((l.getD i it0).1 == k)
      · have HI2 := hx (show hasN k (l.take (i + 1)) = false by rw [HS.out, HH.out, hk]; rfl)
        clear HS
        generalize (l.getD i it0).1 = y at *
        go_wp2
        go_roundw
        case rel => exact ⟨i + 1, by omega, by go_num, HI2.out, trivial⟩
        case measure => simp [intOf] <;> omega
      · have HI2 := hx (show hasN k l = true from has_true k l (i + 1) (by rw [HS.out, HH.out, hk]; rfl))
        clear HS
        generalize (l.getD i it0).1 = y at *
        go_wp2
        go_ret
        rw [HI2.out]
        exact ⟨rfl, K0.out⟩
    · obtain rfl : i = n := by omega
      have HE := hx (show hasN k l = false by have h := HH.out; rw [← HN.out, List.take_length] at h; exact h)
      go_wp2
      go_ret
      rw [HE.out]
      exact ⟨rfl, K0.out⟩
/-- What put does so far: the list out, and whether x is in it. -/
def InN (l : List (It)) (x : It) (i : Nat) (b : Bool) (out : List (It)) : Prop :=
  putN x l = out ++ (if b then l.drop i else putN x (l.drop i)) ∧ out.length = i + (if b then 1 else 0)
theorem InN.zero (l : List (It)) (x : It) : InN l x 0 false [] := ⟨by simp, rfl⟩
theorem drop_c3 (l : List (It)) (i : Nat) (hi : i < l.length) : l.drop i = l.getD i it0 :: l.drop (i + 1) := by
  rw [List.drop_eq_getElem_cons hi]
  simp [List.getD, hi]
theorem InN.goes {l : List (It)} {x : It} {i : Nat} {out : List (It)} (h : InN l x i true out) (hi : i < l.length) : InN l x (i + 1) true (out ++ [l.getD i it0]) := by
  obtain ⟨h1, h2⟩ := h
  refine ⟨?_, by simp only [List.length_append, if_true] at *; simp; omega⟩
  rw [h1, if_pos rfl, if_pos rfl, drop_c3 l i hi]
  simp
theorem InN.less {l : List (It)} {x : It} {i : Nat} {out : List (It)} (h : InN l x i false out) (hi : i < l.length) (hx : ¬ x.2.1 < (l.getD i it0).2.1) : InN l x (i + 1) false (out ++ [l.getD i it0]) := by
  obtain ⟨h1, h2⟩ := h
  refine ⟨?_, by simp at *; omega⟩
  rw [h1]
  simp only [Bool.false_eq_true, if_false]
  rw [drop_c3 l i hi, putN, if_neg hx]
  simp
theorem InN.puts {l : List (It)} {x : It} {i : Nat} {out : List (It)} (h : InN l x i false out) (hi : i < l.length) (hx : x.2.1 < (l.getD i it0).2.1) : InN l x (i + 1) true (out ++ [x] ++ [l.getD i it0]) := by
  obtain ⟨h1, h2⟩ := h
  refine ⟨?_, by simp at *; omega⟩
  rw [h1]
  simp only [Bool.false_eq_true, if_false, if_true]
  rw [drop_c3 l i hi, putN, if_pos hx]
  simp
theorem InN.last {l : List (It)} {x : It} {out : List (It)} (h : InN l x l.length false out) : putN x l = out ++ [x] := by
  rw [h.1]
  simp [putN]
theorem InN.done {l : List (It)} {x : It} {out : List (It)} (h : InN l x l.length true out) : putN x l = out := by
  rw [h.1]
  simp
/-- What put leaves. -/
def PutP (w : World) (r : List It) (e : Ending) (w' : World) : Prop :=
  ∃ a n c, e = .returned (.slice a n c) ∧ r.length = n ∧ n ≤ c ∧ L3 w' 56 a r ∧ Kept [] w w'
/-- A box of the call's own. -/
structure Bx1 (w wr : World) (T : TypeId) (xs : List Value) : Prop where
  b : Blk wr w.heap.size xs T
  k : Kept [] w wr
theorem Bx1.new (w : World) (T : TypeId) (xs : List Value) : Bx1 w (w.alloc (.cells xs.toArray T)) T xs := ⟨Blk.new w xs T, (Kept.refl _ _).alloc _⟩
theorem Bx1.alloc {w wr : World} {T : TypeId} {xs : List Value} (h : Bx1 w wr T xs) (o : Obj) : Bx1 w (wr.alloc o) T xs := ⟨h.b.alloc o, h.k.alloc o⟩
theorem Bx1.size {w wr : World} {T : TypeId} {xs : List Value} (h : Bx1 w wr T xs) : w.heap.size + 1 ≤ wr.heap.size := h.b.lt
theorem Bx1.grown {w wr w2 : World} {T : TypeId} {xs : List Value} {row : Option Nat} (h : Bx1 w wr T xs) (hg : wr.grownBy w2 row) (hr : ∀ k, row = some k → w.heap.size + 1 ≤ k) : Bx1 w w2 T xs := by
  refine ⟨?_, h.k.grown hg (fun k hk => .inr (by have := hr k hk; omega))⟩
  have hlt := h.b.lt
  have hb := h.b
  unfold Blk at *
  rw [hg.block _ hlt (fun e => by have := hr _ e.symm; omega)]
  exact hb
set_option maxRecDepth 100000 in
set_option maxHeartbeats 12000000 in
theorem rput_any (a : Option Addr) (n c : Nat) (l : List It) (x1 x2 x3 : Int) (w : World) (hl : L3 w 56 a l) (hn : l.length = n) (h100 : n ≤ 1000) :
    Calls Try.prog 29 #[.slice a n c, .agg #[.int .u32 x1, .int .i64 x2, .int .i64 x3]] w (PutP w (putN (x1, x2, x3) l)) := by
  have HL := hx hl
  have HN := hx hn
  have P0 := hx (show Bx1 w (w.alloc (.cells #[.int .u32 x1, .int .i64 x2, .int .i64 x3] 56)) 56 (ci3 (x1, x2, x3)) from Bx1.new w 56 (ci3 (x1, x2, x3)))
  generalize hPP : PutP w (putN (x1, x2, x3) l) = PP at *
  have HPP := hx hPP
  clear hl hn hPP
  go_enter Try.func29, Try.ntmps29
  go_wp2_with fail
  generalize w.alloc (.cells #[.int .u32 x1, .int .i64 x2, .int .i64 x3] 56) = W0 at *
  go_loopw [5, 6, 7] (fun ov bv iv wr => ∃ (i : Nat) (b : Bool) (out : List It) (u : Value), i ≤ n ∧ iv = .int .i64 i ∧ bv = .bool b ∧ u = ov ∧ InN l (x1, x2, x3) i b out ∧ wr.ownsRow (w.heap.size + 1) 56 3 u out.length (cl3 out) ∧ Bx1 w wr 56 (ci3 (x1, x2, x3))) (fun _ _ iv _ => n - (intOf iv).toNat)
  case atStart => exact ⟨0, false, [], _, by omega, rfl, rfl, rfl, InN.zero _ _, World.ownsRow_nil _ _ _ _, P0.out⟩
  case round =>
    clear P0
    obtain ⟨i, b, out, u, hi, rfl, rfl, hu, hpi, ho, hp⟩ := hrel
    subst hu
    have HPI := hx hpi
    have HO := hx ho
    have HP := hx hp
    have HLN := hx (show out.length ≤ 1001 by have h := hpi.2; cases b <;> simp at h <;> omega)
    clear hpi ho hp
    have cx1 := HP.out.b.cell (i := 1) rfl
    by_cases hlt : i < n
    · have hli : (i : Int) < (n : Int) := by omega
      have hil : i < l.length := by have := HN.out; omega
      obtain ⟨g, off, rfl, e1, e2, e3⟩ := (HL.out.kept HP.out.k).cell i hil
      have HCY := hx (fun w8 (hk : Kept [] w w8) => show w8.cell? ⟨g, off + i * 3, none⟩ = some (.int .u32 (l.getD i it0).1) ∧ w8.cell? ⟨g, off + i * 3 + 1, none⟩ = some (.int .i64 (l.getD i it0).2.1) ∧ w8.cell? ⟨g, off + i * 3 + 2, none⟩ = some (.int .i64 (l.getD i it0).2.2) from by
        obtain ⟨g', off', he, f1, f2, f3⟩ := (HL.out.kept hk).cell i hil
        simp only [Option.some.injEq, Addr.mk.injEq, and_true] at he
        obtain ⟨rfl, rfl⟩ := he
        exact ⟨f1, f2, f3⟩)
      clear e1 e2 e3
      cases b
      · by_cases hy : x2 < (l.getD i it0).2.1
        · have HI2 := hx (HPI.out.puts hil hy)
          clear HPI
          generalize l.getD i it0 = y at *
          obtain ⟨y1, y2, y3⟩ := y
          simp only at HCY hy
          obtain ⟨e1, e2, e3⟩ := HCY.out _ HP.out.k
          have hyd := decide_eq_true hy
          clear hy
          go_upto_region 6 with fail
          go_quiet (fail)
          have HPd := hx (show Bx1 w (wr.drewN nq) 56 (ci3 (x1, x2, x3)) from ⟨HP.out.b.drewN nq, HP.out.k.drewN nq⟩)
          have HOd := hx (show (wr.drewN nq).ownsRow (w.heap.size + 1) 56 3 u out.length (cl3 out) from HO.out)
          obtain ⟨e1, e2, e3⟩ := HCY.out _ HPd.out.k
          clear HP HO cx1
          generalize wr.drewN nq = wq at *
          have cx0 := HPd.out.b.cell (i := 0) rfl
          have cx1 := HPd.out.b.cell (i := 1) rfl
          have cx2 := HPd.out.b.cell (i := 2) rfl
          go_wp2_with (first
            | (at_builtin; refine wpList_app rfl (.tmp 26) (.tmp 28) 25 rfl (w.heap.size + 1) 56 (.agg #[.int .u32 0, .int .i64 0, .int .i64 0]) 3 24 infoItem Try.underlying25 rfl (by omega) u (out).length (cl3 (out)) rfl (World.ownsRow.alloc HOd.out _) (some ⟨_, 0, none⟩) 1 1 (ci3 (x1, x2, x3)) rfl rfl (by simp) (by omega) (news2 (Blk.new _ (ci3 (x1, x2, x3)) 56)) (one_ci3 _) (by have := HLN.out; simp [maxLen]; omega) (by have := HLN.out; simp; omega) (HPd.out.alloc _).size ?_; intro u2 w8 ho8 hg8; have HP8 := hx ((HPd.out.alloc _).grown hg8 (fun q hq => (HOd.out.lt q hq).1)); have HO8 := hx (own_push3 ho8); clear ho8 hg8; obtain ⟨f1, f2, f3⟩ := HCY.out _ HP8.out.k)
            | (at_builtin; refine wpList_app rfl (.tmp 30) (.tmp 35) 25 rfl (w.heap.size + 1) 56 (.agg #[.int .u32 0, .int .i64 0, .int .i64 0]) 3 24 infoItem Try.underlying25 rfl (by omega) u2 (out ++ [(x1, x2, x3)]).length (cl3 (out ++ [(x1, x2, x3)])) rfl (World.ownsRow.alloc HO8.out _) (some ⟨_, 0, none⟩) 1 1 (ci3 (y1, y2, y3)) rfl rfl (by simp) (by omega) (news2 (Blk.new _ (ci3 (y1, y2, y3)) 56)) (one_ci3 _) (by have := HLN.out; simp [maxLen]; omega) (by have := HLN.out; simp; omega) (HP8.out.alloc _).size ?_; intro u3 w8 ho8 hg8; have HP9 := hx ((HP8.out.alloc _).grown hg8 (fun q hq => (HO8.out.lt q hq).1)); have HO9 := hx (own_push3 ho8); clear ho8 hg8))
          go_roundw
          case rel => exact ⟨i + 1, true, out ++ [(x1, x2, x3)] ++ [(y1, y2, y3)], u3, by omega, by go_num, rfl, rfl, HI2.out, HO9.out, HP9.out⟩
          case measure => simp [intOf] <;> omega
        · have HI2 := hx (HPI.out.less hil hy)
          clear HPI
          generalize l.getD i it0 = y at *
          obtain ⟨y1, y2, y3⟩ := y
          simp only at HCY hy
          obtain ⟨e1, e2, e3⟩ := HCY.out _ HP.out.k
          have hyd := decide_eq_false hy
          clear hy
          go_upto_region 6 with fail
          go_quiet (fail)
          have HPd := hx (show Bx1 w (wr.drewN nq) 56 (ci3 (x1, x2, x3)) from ⟨HP.out.b.drewN nq, HP.out.k.drewN nq⟩)
          have HOd := hx (show (wr.drewN nq).ownsRow (w.heap.size + 1) 56 3 u out.length (cl3 out) from HO.out)
          obtain ⟨e1, e2, e3⟩ := HCY.out _ HPd.out.k
          clear HP HO cx1
          generalize wr.drewN nq = wq at *
          have cx0 := HPd.out.b.cell (i := 0) rfl
          have cx1 := HPd.out.b.cell (i := 1) rfl
          have cx2 := HPd.out.b.cell (i := 2) rfl
          go_wp2_with (at_builtin; refine wpList_app rfl (.tmp 30) (.tmp 35) 25 rfl (w.heap.size + 1) 56 (.agg #[.int .u32 0, .int .i64 0, .int .i64 0]) 3 24 infoItem Try.underlying25 rfl (by omega) u (out).length (cl3 (out)) rfl (World.ownsRow.alloc HOd.out _) (some ⟨_, 0, none⟩) 1 1 (ci3 (y1, y2, y3)) rfl rfl (by simp) (by omega) (news2 (Blk.new _ (ci3 (y1, y2, y3)) 56)) (one_ci3 _) (by have := HLN.out; simp [maxLen]; omega) (by have := HLN.out; simp; omega) (HPd.out.alloc _).size ?_; intro u2 w8 ho8 hg8; have HP8 := hx ((HPd.out.alloc _).grown hg8 (fun q hq => (HOd.out.lt q hq).1)); have HO8 := hx (own_push3 ho8); clear ho8 hg8)
          go_roundw
          case rel => exact ⟨i + 1, false, out ++ [(y1, y2, y3)], u2, by omega, by go_num, rfl, rfl, HI2.out, HO8.out, HP8.out⟩
          case measure => simp [intOf] <;> omega
      · have HI2 := hx (HPI.out.goes hil)
        clear HPI
        generalize l.getD i it0 = y at *
        obtain ⟨y1, y2, y3⟩ := y
        simp only at HCY
        obtain ⟨e1, e2, e3⟩ := HCY.out _ HP.out.k
        go_upto_region 6 with fail
        go_quiet (fail)
        have HPd := hx (show Bx1 w (wr.drewN nq) 56 (ci3 (x1, x2, x3)) from ⟨HP.out.b.drewN nq, HP.out.k.drewN nq⟩)
        have HOd := hx (show (wr.drewN nq).ownsRow (w.heap.size + 1) 56 3 u out.length (cl3 out) from HO.out)
        obtain ⟨e1, e2, e3⟩ := HCY.out _ HPd.out.k
        clear HP HO cx1
        generalize wr.drewN nq = wq at *
        have cx0 := HPd.out.b.cell (i := 0) rfl
        have cx1 := HPd.out.b.cell (i := 1) rfl
        have cx2 := HPd.out.b.cell (i := 2) rfl
        go_wp2_with (at_builtin; refine wpList_app rfl (.tmp 30) (.tmp 35) 25 rfl (w.heap.size + 1) 56 (.agg #[.int .u32 0, .int .i64 0, .int .i64 0]) 3 24 infoItem Try.underlying25 rfl (by omega) u (out).length (cl3 (out)) rfl (World.ownsRow.alloc HOd.out _) (some ⟨_, 0, none⟩) 1 1 (ci3 (y1, y2, y3)) rfl rfl (by simp) (by omega) (news2 (Blk.new _ (ci3 (y1, y2, y3)) 56)) (one_ci3 _) (by have := HLN.out; simp [maxLen]; omega) (by have := HLN.out; simp; omega) (HPd.out.alloc _).size ?_; intro u2 w8 ho8 hg8; have HP8 := hx ((HPd.out.alloc _).grown hg8 (fun q hq => (HOd.out.lt q hq).1)); have HO8 := hx (own_push3 ho8); clear ho8 hg8)
        go_roundw
        case rel => exact ⟨i + 1, true, out ++ [(y1, y2, y3)], u2, by omega, by go_num, rfl, rfl, HI2.out, HO8.out, HP8.out⟩
        case measure => simp [intOf] <;> omega
    · obtain rfl : i = n := by omega
      have cx0 := HP.out.b.cell (i := 0) rfl
      have cx2 := HP.out.b.cell (i := 2) rfl
      cases b
      · have HI2 := hx (show putN (x1, x2, x3) l = out ++ [(x1, x2, x3)] from InN.last (by have h := HPI.out; rw [← HN.out] at h; exact h))
        clear HPI
        go_wp2_with (at_builtin; refine wpList_app rfl (.tmp 39) (.tmp 41) 25 rfl (w.heap.size + 1) 56 (.agg #[.int .u32 0, .int .i64 0, .int .i64 0]) 3 24 infoItem Try.underlying25 rfl (by omega) u (out).length (cl3 (out)) rfl (World.ownsRow.alloc HO.out _) (some ⟨_, 0, none⟩) 1 1 (ci3 (x1, x2, x3)) rfl rfl (by simp) (by omega) (news2 (Blk.new _ (ci3 (x1, x2, x3)) 56)) (one_ci3 _) (by have := HLN.out; simp [maxLen]; omega) (by have := HLN.out; simp; omega) (HP.out.alloc _).size ?_; intro u2 w8 ho8 hg8; have HP8 := hx ((HP.out.alloc _).grown hg8 (fun q hq => (HO.out.lt q hq).1)); have HO8 := hx (own_push3 ho8); clear ho8 hg8)
        rw [← HPP.out]
        obtain ⟨hlen, a3, c3, rfl, hcap, hL3⟩ := l3_own HO8.out
        exact ⟨a3, _, c3, rfl, by rw [HI2.out], hcap, by rw [HI2.out]; exact hL3, HP8.out.k⟩
      · have HI2 := hx (show putN (x1, x2, x3) l = out from InN.done (by have h := HPI.out; rw [← HN.out] at h; exact h))
        clear HPI
        go_wp2
        rw [← HPP.out]
        obtain ⟨hlen, a3, c3, rfl, hcap, hL3⟩ := l3_own HO.out
        exact ⟨a3, _, c3, rfl, by rw [HI2.out], hcap, by rw [HI2.out]; exact hL3, HP.out.k⟩
end Go.Proofs.Yteobkcmfpmolmaa
