/- The document's timer: Start. -/
import Derived.Test.YthcbacflopbkdaaTmK
namespace Go.Proofs.Ythcbacflopbkdaa
open Go Go.RowKit
/-- What Start does so far: the list out, and whether x is in it. -/
def InI (l : List (Int × Int)) (x : Int × Int) (i : Nat) (b : Bool) (out : List (Int × Int)) : Prop :=
  insT x l = out ++ (if b then l.drop i else insT x (l.drop i)) ∧ out.length = i + (if b then 1 else 0)
theorem InI.zero (l : List (Int × Int)) (x : Int × Int) : InI l x 0 false [] := ⟨by simp, rfl⟩
theorem drop_c2 (l : List (Int × Int)) (i : Nat) (hi : i < l.length) : l.drop i = l.getD i (0, 0) :: l.drop (i + 1) := by
  rw [List.drop_eq_getElem_cons hi]
  simp [List.getD, hi]
theorem InI.goes {l : List (Int × Int)} {x : Int × Int} {i : Nat} {out : List (Int × Int)} (h : InI l x i true out) (hi : i < l.length) : InI l x (i + 1) true (out ++ [l.getD i (0, 0)]) := by
  obtain ⟨h1, h2⟩ := h
  refine ⟨?_, by simp only [List.length_append, if_true] at *; simp; omega⟩
  rw [h1, if_pos rfl, if_pos rfl, drop_c2 l i hi]
  simp
theorem InI.less {l : List (Int × Int)} {x : Int × Int} {i : Nat} {out : List (Int × Int)} (h : InI l x i false out) (hi : i < l.length) (hx : ¬ x.2 < (l.getD i (0, 0)).2) : InI l x (i + 1) false (out ++ [l.getD i (0, 0)]) := by
  obtain ⟨h1, h2⟩ := h
  refine ⟨?_, by simp at *; omega⟩
  rw [h1]
  simp only [Bool.false_eq_true, if_false]
  rw [drop_c2 l i hi, insT, if_neg hx]
  simp
theorem InI.puts {l : List (Int × Int)} {x : Int × Int} {i : Nat} {out : List (Int × Int)} (h : InI l x i false out) (hi : i < l.length) (hx : x.2 < (l.getD i (0, 0)).2) : InI l x (i + 1) true (out ++ [x] ++ [l.getD i (0, 0)]) := by
  obtain ⟨h1, h2⟩ := h
  refine ⟨?_, by simp at *; omega⟩
  rw [h1]
  simp only [Bool.false_eq_true, if_false, if_true]
  rw [drop_c2 l i hi, insT, if_pos hx]
  simp
theorem InI.last {l : List (Int × Int)} {x : Int × Int} {out : List (Int × Int)} (h : InI l x l.length false out) : insT x l = out ++ [x] := by
  rw [h.1]
  simp [insT]
theorem InI.done {l : List (Int × Int)} {x : Int × Int} {out : List (Int × Int)} (h : InI l x l.length true out) : insT x l = out := by
  rw [h.1]
  simp
/-- The list then, the error's number. -/
def startR (room now : Int) (l : List (Int × Int)) (k ticks : Int) : List (Int × Int) × Int :=
  if ticks < 1 ∨ 1099511627776 < ticks then (l, 1) else if (without k l).length = l.length ∧ room ≤ l.length then (l, 2) else (insT (k, now + ticks) (without k l), 0)
def RetP (w : World) (room now : Int) (r : List (Int × Int)) (code : Int) (e : Ending) (w' : World) : Prop :=
  ∃ a n c, e = .returned (.tuple #[.agg #[.int .i64 room, .int .i64 now, .slice a n c], .int .i64 code]) ∧ r.length = n ∧ n ≤ c ∧ L2 w' 46 a r ∧ Kept [] w w'
set_option maxRecDepth 100000 in
set_option maxHeartbeats 3200000 in
theorem rstart_bad (a : Option Addr) (n c : Nat) (l : List (Int × Int)) (room now k ticks : Int) (w : World) (hl : L2 w 46 a l) (hn : l.length = n) (hc : n ≤ c) (hb : ticks < 1 ∨ 1099511627776 < ticks) :
    Calls Try.prog 26 #[.agg #[.int .i64 room, .int .i64 now, .slice a n c], .int .i64 k, .int .i64 ticks] w (RetP w room now l 1) := by
  have hz := zeroRSet
  have P0 := hx (Bx2.new w 34 (set3 room now (.slice a n c)) (set3 0 0 (.slice none 0 0)))
  have HQ := hx (fun w' (hk : Kept [] w w') => show RetP w room now l 1 (.returned (.tuple #[.agg #[.int .i64 room, .int .i64 now, .slice a n c], .int .i64 1])) w' from ⟨a, n, c, rfl, hn, hc, hl.kept hk, hk⟩)
  generalize RetP w room now l 1 = PP at *
  clear hl hn hc
  have fin : ∀ w2 w3, Bx2 w w2 34 (set3 room now (.slice a n c)) (set3 0 0 (.slice none 0 0)) → Kept [w.heap.size + 1] w2 w3 → Kept [] w w3 := fun w2 w3 h k => h.k.trans k (fun _ h => h) (fun x hx => by simp at hx; right; omega)
  have HF := hx fin
  clear fin
  by_cases h1 : ticks < 1
  · clear hb
    go_enter Try.func26, Try.ntmps26
    go_wp2_with (first
      | refine load_blk rfl 34 (.tmp 3) rfl w.heap.size rfl 34 _ _ P0.out.b0 Try.underlying34 rfl infoSet ?_
      | (refine store_blk rfl 34 (.tmp 6) (.tmp 20) rfl (w.heap.size + 1) rfl 34 _ (set3 room now (.slice a n c)) rfl P0.out.b1 rfl infoSet (by intro x hx; simp at hx; rcases hx with rfl | rfl | rfl <;> rfl) ?_
         intro w9 hb9 hk9))
    refine bodyPost_ret (ret_blk2 rfl _ (w.heap.size + 1) _ _ _ _ rfl rfl hb9 Try.underlying34 rfl infoSet) rfl ?_
    exact HQ.out _ (HF.out _ _ P0.out hk9)
  · have hd1 : decide (ticks < 1) = false := decide_eq_false h1
    have hd2 : decide (1099511627776 < ticks) = true := decide_eq_true (by omega)
    clear hb h1
    go_enter Try.func26, Try.ntmps26
    go_wp2_with (first
      | refine load_blk rfl 34 (.tmp 3) rfl w.heap.size rfl 34 _ _ P0.out.b0 Try.underlying34 rfl infoSet ?_
      | (refine store_blk rfl 34 (.tmp 6) (.tmp 20) rfl (w.heap.size + 1) rfl 34 _ (set3 room now (.slice a n c)) rfl P0.out.b1 rfl infoSet (by intro x hx; simp at hx; rcases hx with rfl | rfl | rfl <;> rfl) ?_
         intro w9 hb9 hk9))
    refine bodyPost_ret (ret_blk2 rfl _ (w.heap.size + 1) _ _ _ _ rfl rfl hb9 Try.underlying34 rfl infoSet) rfl ?_
    exact HQ.out _ (HF.out _ _ P0.out hk9)
/-- Two boxes of the call's own, and a third one. -/
structure Bx3 (w wr : World) (T : TypeId) (xs ys : List Value) (nb : Nat) (zs : List Value) : Prop where
  b : Bx2 w wr T xs ys
  n : Blk wr nb zs T
  le : w.heap.size + 2 ≤ nb
theorem Bx3.alloc {w wr : World} {T : TypeId} {xs ys zs : List Value} {nb : Nat} (h : Bx3 w wr T xs ys nb zs) (o : Obj) : Bx3 w (wr.alloc o) T xs ys nb zs := ⟨h.b.alloc o, h.n.alloc o, h.le⟩
theorem Bx3.grown {w wr w2 : World} {T : TypeId} {xs ys zs : List Value} {nb : Nat} {row : Option Nat} (h : Bx3 w wr T xs ys nb zs) (hg : wr.grownBy w2 row) (hr : ∀ k, row = some k → nb + 1 ≤ k) : Bx3 w w2 T xs ys nb zs := by
  refine ⟨h.b.grown hg (fun k hk => by have := hr k hk; have := h.le; omega), ?_, h.le⟩
  have hlt := h.n.lt
  have hb := h.n
  unfold Blk at *
  rw [hg.block nb hlt (fun e => by have := hr _ e.symm; omega)]
  exact hb
theorem kept_grow {A W W1 w8 : World} {row : Option Nat} {o : Obj} (hk : Kept [] A W) (hg : W1.grownBy w8 row) (h1 : W1 = W.alloc o) (hr : ∀ q, row = some q → A.heap.size ≤ q) : Kept [] A w8 := by
  subst h1
  exact (hk.alloc o).grown hg (fun k hk => .inr (hr k hk))
set_option maxRecDepth 100000 in
set_option maxHeartbeats 12000000 in
theorem rstart_ok (a : Option Addr) (n c : Nat) (l : List (Int × Int)) (room now k ticks : Int) (w : World) (hl : L2 w 46 a l) (hn : l.length = n) (hc : n ≤ c) (h100 : n ≤ 1000) (h1 : 1 ≤ ticks) (h2 : ticks ≤ 1099511627776) (hw0 : 0 ≤ now) (hw1 : now ≤ 1099511627776) :
    Calls Try.prog 26 #[.agg #[.int .i64 room, .int .i64 now, .slice a n c], .int .i64 k, .int .i64 ticks] w (RetP w room now (startR room now l k ticks).1 (startR room now l k ticks).2) := by
  have hz := zeroRSet
  have P0 := hx (Bx2.new w 34 (set3 room now (.slice a n c)) (set3 0 0 (.slice none 0 0)))
  have hd1 : decide (ticks < 1) = false := decide_eq_false (by omega)
  have hd2 : decide (1099511627776 < ticks) = false := decide_eq_false (by omega)
  have hsum : IntKind.i64.wrap (now + ticks) = now + ticks := IntWalk.i64_in _ (by omega)
  have HWO := hx (fun w1 (hk : Kept [] w w1) => rwithout_any a n c l room now k w1 (hl.kept hk) hn h100)
  have HST := hx (show startR room now l k ticks = if (without k l).length = l.length ∧ room ≤ l.length then (l, 2) else (insT (k, now + ticks) (without k l), 0) by unfold startR; rw [if_neg (by omega)])
  have HL := hx hl
  have HN := hx hn
  have HC := hx hc
  have HWL := hx (wo_len k l)
  have HSM := hx hsum
  clear hl hn hc h1 h2 hw0 hw1 hsum
  go_enter Try.func26, Try.ntmps26
  go_upto_region 3 with fail
  generalize (w.alloc (.cells #[.int .i64 room, .int .i64 now, .slice a n c] 34)).alloc (.cells #[.int .i64 0, .int .i64 0, .slice none 0 0] 34) = W0 at *
  clear hz
  have a0 := P0.out.b0.cell (i := 0) rfl
  have a1 := P0.out.b0.cell (i := 1) rfl
  have a2 := P0.out.b0.cell (i := 2) rfl
  go_wp2_with fail
  refine (HWO.out W0 P0.out.k).mono ?_
  rintro e w1 ⟨a', n', c', rfl, hn', hc', hl', hk'⟩
  have HL1 := hx hl'
  have HN1 := hx (And.intro hn' hc')
  have P1 := hx (P0.out.kept hk')
  clear hn' hc' hl' hk' a0 a1 a2 HWO P0
  generalize hr : without k l = r at *
  have HR := hx hr
  clear hr
  go_upto_region 4 with fail
  have HB := hx (show Bx3 w (w1.alloc (.cells #[.int .i64 room, .int .i64 now, .slice a' n' c'] 34)) 34 (set3 room now (.slice a n c)) (set3 0 0 (.slice none 0 0)) w1.heap.size (set3 room now (.slice a' n' c')) from ⟨P1.out.alloc _, Blk.new w1 (set3 room now (.slice a' n' c')) _, P1.out.size⟩)
  have HL2 := hx (HL1.out.kept ((Kept.refl [] w1).alloc (.cells #[.int .i64 room, .int .i64 now, .slice a' n' c'] 34)))
  have HNB := hx (show (w1.alloc (.cells #[.int .i64 room, .int .i64 now, .slice a' n' c'] 34)).heap.size = w1.heap.size + 1 by simp)
  clear HL1 P1
  generalize w1.heap.size = nb at *
  generalize w1.alloc (.cells #[.int .i64 room, .int .i64 now, .slice a' n' c'] 34) = W2 at *
  have a0 := HB.out.b.b0.cell (i := 0) rfl
  have a1 := HB.out.b.b0.cell (i := 1) rfl
  have a2 := HB.out.b.b0.cell (i := 2) rfl
  obtain ⟨fl, hfl⟩ : ∃ fl, fl = (!decide (r.length < l.length) && decide (room ≤ (n : Int))) := ⟨_, rfl⟩
  have HFL := hx hfl
  clear hfl
  go_cut [36] (fun s36 wx => s36 = .bool fl ∧ wx = W2)
  case first =>
    go_wp2_with fail
    all_goals
      go_meet
      refine ⟨?_, rfl⟩
      rw [HFL.out]
      try rfl
      try simp [*]
  case rest =>
    obtain ⟨rfl, rfl⟩ := hcut
    cases fl
    · have HSR := hx (show startR room now l k ticks = (insT (k, now + ticks) r, 0) by rw [HST.out, if_neg (by have h1 := HFL.out; have h2 := HN.out; simp at h1; omega)])
      have HRN := hx (And.intro HN1.out.1 HN1.out.2)
      have HQ := hx (fun e w' (h : RetP w room now (insT (k, now + ticks) r) 0 e w') => show RetP w room now (startR room now l k ticks).1 (startR room now l k ticks).2 e w' by rw [HSR.out]; exact h)
      generalize RetP w room now (startR room now l k ticks).1 (startR room now l k ticks).2 = PP at *
      have HLR := hx (show n' ≤ 1000 by have h1 := HWL.out; have h2 := HN.out; have h3 := HN1.out.1; omega)
      have hsm := HSM.out
      clear HST HSR a0 a2 HC HL HFL
      go_upto_region 7 with fail
      clear hsm a1
      generalize now + ticks = d at *
      go_wp2_with fail
      have hn1000 : n' ≤ 1000 := HLR.out
      go_loopw [11, 12, 13] (fun ov bv iv wr => ∃ (i : Nat) (b : Bool) (out : List (Int × Int)) (u : Value), i ≤ n' ∧ iv = .int .i64 i ∧ bv = .bool b ∧ u = ov ∧ InI r (k, d) i b out ∧ wr.ownsRow (nb + 1) 46 2 u out.length (cl2 out) ∧ Bx3 w wr 34 (set3 room now (.slice a n c)) (set3 0 0 (.slice none 0 0)) nb (set3 room now (.slice a' n' c')) ∧ Kept [] wc wr) (fun _ _ iv _ => n' - (intOf iv).toNat)
      case atStart => exact ⟨0, false, [], _, by omega, rfl, rfl, rfl, InI.zero _ _, World.ownsRow_nil _ _ _ _, HB.out, Kept.refl _ _⟩
      case round =>
        obtain ⟨i, b, out, u, hi, rfl, rfl, hu, hpi, ho, hp, hkr⟩ := hrel
        subst hu
        have HPI := hx hpi
        have HO := hx ho
        have HP := hx hp
        have HK := hx hkr
        have HLN := hx (show out.length ≤ 1002 by have h := hpi.2; cases b <;> simp at h <;> omega)
        clear hpi ho hp hkr
        have c2 := HP.out.n.cell (i := 2) rfl
        by_cases hlt : i < n'
        · have hli : (i : Int) < (n' : Int) := by omega
          have hil : i < r.length := by have := HRN.out.1; omega
          obtain ⟨g, off, rfl, e1, e2⟩ := (HL2.out.kept HK.out).cell i hil
          cases b
          · by_cases hy : d < (r.getD i (0, 0)).2
            · have HI2 := hx (HPI.out.puts hil hy)
              clear HPI
              have HCY := hx (fun w8 (hk : Kept [] wc w8) => show w8.cell? ⟨g, off + i * 2, none⟩ = some (.int .i64 (r.getD i (0, 0)).1) ∧ w8.cell? ⟨g, off + i * 2 + 1, none⟩ = some (.int .i64 (r.getD i (0, 0)).2) from by
                obtain ⟨g', off', he, f1, f2⟩ := (HL2.out.kept hk).cell i hil
                simp only [Option.some.injEq, Addr.mk.injEq, and_true] at he
                obtain ⟨rfl, rfl⟩ := he
                exact ⟨f1, f2⟩)
              generalize r.getD i (0, 0) = y at *
              obtain ⟨y1, y2⟩ := y
              simp only at hy e1 e2 HCY
              have hyd := decide_eq_true hy
              clear hy
              go_wp2_with (first
                | (at_builtin; refine wpList_app rfl (.tmp 61) (.tmp 65) 32 rfl (nb + 1) 46 (.agg #[.int .i64 0, .int .i64 0]) 2 16 infoRun Try.underlying32 rfl (by omega) u out.length (cl2 out) rfl (World.ownsRow.alloc HO.out _) (some ⟨_, 0, none⟩) 1 1 (ci2 (k, d)) rfl rfl (by simp) (by omega) (news2 (Blk.new _ (ci2 (k, d)) 46)) (one_ci2 _) (by have := HLN.out; simp [maxLen]; omega) (by have := HLN.out; simp; omega) (HP.out.alloc _).n.lt ?_; intro u2 w8 ho8 hg8; have HP8 := hx ((HP.out.alloc _).grown hg8 (fun q hq => (HO.out.lt q hq).1)); have HO8 := hx (own_push2 ho8); have HK8 := hx (kept_grow HK.out hg8 rfl (fun q hq => by have h1 := (HO.out.lt q hq).1; have h2 := HNB.out; omega)); clear ho8 hg8; obtain ⟨f1, f2⟩ := HCY.out _ HK8.out; have d2 := HP8.out.n.cell (i := 2) (v := .slice (some ⟨g, off, none⟩) n' c') rfl)
                | (at_builtin; refine wpList_app rfl (.tmp 67) (.tmp 73) 32 rfl (nb + 1) 46 (.agg #[.int .i64 0, .int .i64 0]) 2 16 infoRun Try.underlying32 rfl (by omega) u2 (out ++ [(k, d)]).length (cl2 (out ++ [(k, d)])) rfl (World.ownsRow.alloc HO8.out _) (some ⟨_, 0, none⟩) 1 1 (ci2 (y1, y2)) rfl rfl (by simp) (by omega) (news2 (Blk.new _ (ci2 (y1, y2)) 46)) (one_ci2 _) (by have := HLN.out; simp [maxLen]; omega) (by have := HLN.out; simp; omega) (HP8.out.alloc _).n.lt ?_; intro u3 w8 ho8 hg8; have HP9 := hx ((HP8.out.alloc _).grown hg8 (fun q hq => (HO8.out.lt q hq).1)); have HO9 := hx (own_push2 ho8); have HK9 := hx (kept_grow HK8.out hg8 rfl (fun q hq => by have h1 := (HO8.out.lt q hq).1; have h2 := HNB.out; omega)); clear ho8 hg8))
              go_wp2
              go_roundw
              case rel => exact ⟨i + 1, true, out ++ [(k, d)] ++ [(y1, y2)], u3, by omega, by go_num, rfl, rfl, HI2.out, HO9.out, HP9.out, HK9.out⟩
              case measure => simp [intOf] <;> omega
            · have HI2 := hx (HPI.out.less hil hy)
              clear HPI
              generalize r.getD i (0, 0) = y at *
              obtain ⟨y1, y2⟩ := y
              simp only at hy e1 e2
              have hyd := decide_eq_false hy
              clear hy
              go_wp2_with (first
                | (at_builtin; refine wpList_app rfl (.tmp 67) (.tmp 73) 32 rfl (nb + 1) 46 (.agg #[.int .i64 0, .int .i64 0]) 2 16 infoRun Try.underlying32 rfl (by omega) u out.length (cl2 out) rfl (World.ownsRow.alloc HO.out _) (some ⟨_, 0, none⟩) 1 1 (ci2 (y1, y2)) rfl rfl (by simp) (by omega) (news2 (Blk.new _ (ci2 (y1, y2)) 46)) (one_ci2 _) (by have := HLN.out; simp [maxLen]; omega) (by have := HLN.out; simp; omega) (HP.out.alloc _).n.lt ?_; intro u2 w8 ho8 hg8; have HP8 := hx ((HP.out.alloc _).grown hg8 (fun q hq => (HO.out.lt q hq).1)); have HO8 := hx (own_push2 ho8); have HK8 := hx (kept_grow HK.out hg8 rfl (fun q hq => by have h1 := (HO.out.lt q hq).1; have h2 := HNB.out; omega)); clear ho8 hg8))
              go_wp2
              go_roundw
              case rel => exact ⟨i + 1, false, out ++ [(y1, y2)], u2, by omega, by go_num, rfl, rfl, HI2.out, HO8.out, HP8.out, HK8.out⟩
              case measure => simp [intOf] <;> omega
          · have HI2 := hx (HPI.out.goes hil)
            clear HPI
            generalize r.getD i (0, 0) = y at *
            obtain ⟨y1, y2⟩ := y
            simp only at e1 e2
            go_wp2_with (first
              | (at_builtin; refine wpList_app rfl (.tmp 67) (.tmp 73) 32 rfl (nb + 1) 46 (.agg #[.int .i64 0, .int .i64 0]) 2 16 infoRun Try.underlying32 rfl (by omega) u out.length (cl2 out) rfl (World.ownsRow.alloc HO.out _) (some ⟨_, 0, none⟩) 1 1 (ci2 (y1, y2)) rfl rfl (by simp) (by omega) (news2 (Blk.new _ (ci2 (y1, y2)) 46)) (one_ci2 _) (by have := HLN.out; simp [maxLen]; omega) (by have := HLN.out; simp; omega) (HP.out.alloc _).n.lt ?_; intro u2 w8 ho8 hg8; have HP8 := hx ((HP.out.alloc _).grown hg8 (fun q hq => (HO.out.lt q hq).1)); have HO8 := hx (own_push2 ho8); have HK8 := hx (kept_grow HK.out hg8 rfl (fun q hq => by have h1 := (HO.out.lt q hq).1; have h2 := HNB.out; omega)); clear ho8 hg8))
            go_wp2
            go_roundw
            case rel => exact ⟨i + 1, true, out ++ [(y1, y2)], u2, by omega, by go_num, rfl, rfl, HI2.out, HO8.out, HP8.out, HK8.out⟩
            case measure => simp [intOf] <;> omega
        · obtain rfl : i = n' := by omega
          clear HL2
          cases b
          · have HI2 := hx (show insT (k, d) r = out ++ [(k, d)] from InI.last (by have h := HPI.out; rw [← HRN.out.1] at h; exact h))
            clear HPI
            go_upto_region 18 with (first
              | (at_builtin; refine wpList_app rfl (.tmp 77) (.tmp 81) 32 rfl (nb + 1) 46 (.agg #[.int .i64 0, .int .i64 0]) 2 16 infoRun Try.underlying32 rfl (by omega) u out.length (cl2 out) rfl (World.ownsRow.alloc HO.out _) (some ⟨_, 0, none⟩) 1 1 (ci2 (k, d)) rfl rfl (by simp) (by omega) (news2 (Blk.new _ (ci2 (k, d)) 46)) (one_ci2 _) (by have := HLN.out; simp [maxLen]; omega) (by have := HLN.out; simp; omega) (HP.out.alloc _).n.lt ?_; intro u2 w8 ho8 hg8; have HP8 := hx ((HP.out.alloc _).grown hg8 (fun q hq => (HO.out.lt q hq).1)); have HO8 := hx (own_push2 ho8); clear ho8 hg8))
            clear c2
            obtain ⟨hlen, a3, c3, rfl, hcap, hL3⟩ := l2_own HO8.out
            have HCP := hx hcap
            have HLE := hx HI2.out
            have hf := HP8.out.n.free
            have d9 := HP8.out.n.cell (i := 2) rfl
            have B0 := hx (HP8.out.n.set 2 (.slice a3 (out ++ [(k, d)]).length c3))
            have B1 := hx (HP8.out.b.b1.set_ne (a := ⟨nb, 2, none⟩) (by have := HP8.out.le; simp; omega) (.slice a3 (out ++ [(k, d)]).length c3))
            have K1 := hx (HP8.out.b.k.setCell (p := ⟨nb, 2, none⟩) (.inr (by have := HP8.out.le; simp; omega)) (.slice a3 (out ++ [(k, d)]).length c3))
            have O1 := hx (own_set HO8.out ((Kept.refl [nb] w8).setCell (p := ⟨nb, 2, none⟩) (.inl (by simp)) (.slice a3 (out ++ [(k, d)]).length c3)) (by simp))
            have HLB := hx (HP8.out.le)
            clear HO8 HP8 hL3 hcap hlen
            generalize out ++ [(k, d)] = L at *
            go_upto_region 19 with fail
            clear hf d9
            generalize World.setCell _ _ _ = W9 at *
            go_wp2_with (first
              | refine load_blk rfl 34 (.tmp 8) rfl nb rfl 34 _ _ B0.out Try.underlying34 rfl infoSet ?_
              | (refine store_blk rfl 34 (.tmp 6) (.tmp 85) rfl (w.heap.size + 1) rfl 34 _ (set3 room now (.slice a3 L.length c3)) rfl B1.out rfl infoSet (by intro x hx; simp at hx; rcases hx with rfl | rfl | rfl <;> rfl) ?_
                 intro w9 hb9 hk9))
            refine bodyPost_ret (ret_blk2 rfl _ (w.heap.size + 1) _ _ _ _ rfl rfl hb9 Try.underlying34 rfl infoSet) rfl ?_
            refine HQ.out _ _ ⟨a3, L.length, c3, rfl, by rw [HLE.out], HCP.out, ?_, K1.out.trans hk9 (fun _ h => h) (fun x h => by simp at h; right; omega)⟩
            have h := own_set O1.out hk9 (by have := HLB.out; simp; omega)
            obtain ⟨_, a', c', he, _, hr⟩ := l2_own h
            simp only [Value.slice.injEq] at he
            obtain ⟨rfl, _, rfl⟩ := he
            rw [HLE.out]
            exact hr
          · have HI2 := hx (show insT (k, d) r = out from InI.done (by have h := HPI.out; rw [← HRN.out.1] at h; exact h))
            clear HPI
            go_upto_region 18 with fail
            clear c2
            obtain ⟨hlen, a3, c3, rfl, hcap, hL3⟩ := l2_own HO.out
            have HCP := hx hcap
            have HLE := hx HI2.out
            have hf := HP.out.n.free
            have d9 := HP.out.n.cell (i := 2) rfl
            have B0 := hx (HP.out.n.set 2 (.slice a3 (out).length c3))
            have B1 := hx (HP.out.b.b1.set_ne (a := ⟨nb, 2, none⟩) (by have := HP.out.le; simp; omega) (.slice a3 (out).length c3))
            have K1 := hx (HP.out.b.k.setCell (p := ⟨nb, 2, none⟩) (.inr (by have := HP.out.le; simp; omega)) (.slice a3 (out).length c3))
            have O1 := hx (own_set HO.out ((Kept.refl [nb] wr).setCell (p := ⟨nb, 2, none⟩) (.inl (by simp)) (.slice a3 (out).length c3)) (by simp))
            have HLB := hx (HP.out.le)
            clear HO HP hL3 hcap hlen
            generalize out = L at *
            go_upto_region 19 with fail
            clear hf d9
            generalize World.setCell _ _ _ = W9 at *
            go_wp2_with (first
              | refine load_blk rfl 34 (.tmp 8) rfl nb rfl 34 _ _ B0.out Try.underlying34 rfl infoSet ?_
              | (refine store_blk rfl 34 (.tmp 6) (.tmp 85) rfl (w.heap.size + 1) rfl 34 _ (set3 room now (.slice a3 L.length c3)) rfl B1.out rfl infoSet (by intro x hx; simp at hx; rcases hx with rfl | rfl | rfl <;> rfl) ?_
                 intro w9 hb9 hk9))
            refine bodyPost_ret (ret_blk2 rfl _ (w.heap.size + 1) _ _ _ _ rfl rfl hb9 Try.underlying34 rfl infoSet) rfl ?_
            refine HQ.out _ _ ⟨a3, L.length, c3, rfl, by rw [HLE.out], HCP.out, ?_, K1.out.trans hk9 (fun _ h => h) (fun x h => by simp at h; right; omega)⟩
            have h := own_set O1.out hk9 (by have := HLB.out; simp; omega)
            obtain ⟨_, a', c', he, _, hr⟩ := l2_own h
            simp only [Value.slice.injEq] at he
            obtain ⟨rfl, _, rfl⟩ := he
            rw [HLE.out]
            exact hr
    · have HSR := hx (show startR room now l k ticks = (l, 2) by rw [HST.out, if_pos (by have h1 := HFL.out; have h2 := HN.out; have h3 := HWL.out; simp at h1; omega)])
      have HQ := hx (fun w' (hk : Kept [] w w') => show RetP w room now (startR room now l k ticks).1 (startR room now l k ticks).2 (.returned (.tuple #[.agg #[.int .i64 room, .int .i64 now, .slice a n c], .int .i64 2])) w' from ⟨a, n, c, by rw [HSR.out], by rw [HSR.out]; exact HN.out, HC.out, by rw [HSR.out]; exact HL.out.kept hk, hk⟩)
      generalize RetP w room now (startR room now l k ticks).1 (startR room now l k ticks).2 = PP at *
      clear a0 a1 a2 HST HSR
      go_wp2_with (first
        | refine load_blk rfl 34 (.tmp 3) rfl w.heap.size rfl 34 _ _ HB.out.b.b0 Try.underlying34 rfl infoSet ?_
        | (refine store_blk rfl 34 (.tmp 6) (.tmp 37) rfl (w.heap.size + 1) rfl 34 _ (set3 room now (.slice a n c)) rfl HB.out.b.b1 rfl infoSet (by intro x hx; simp at hx; rcases hx with rfl | rfl | rfl <;> rfl) ?_
           intro w9 hb9 hk9))
      refine bodyPost_ret (ret_blk2 rfl _ (w.heap.size + 1) _ _ _ _ rfl rfl hb9 Try.underlying34 rfl infoSet) rfl ?_
      exact HQ.out _ (HB.out.b.k.trans hk9 (fun _ h => h) (fun x hx => by simp at hx; right; omega))
theorem rstart_any (a : Option Addr) (n c : Nat) (l : List (Int × Int)) (room now k ticks : Int) (w : World) (hl : L2 w 46 a l) (hn : l.length = n) (hc : n ≤ c) (h100 : n ≤ 1000) (hw0 : 0 ≤ now) (hw1 : now ≤ 1099511627776) :
    Calls Try.prog 26 #[.agg #[.int .i64 room, .int .i64 now, .slice a n c], .int .i64 k, .int .i64 ticks] w (RetP w room now (startR room now l k ticks).1 (startR room now l k ticks).2) := by
  by_cases hb : ticks < 1 ∨ 1099511627776 < ticks
  · have h := rstart_bad a n c l room now k ticks w hl hn hc hb
    unfold startR
    rw [if_pos hb]
    exact h
  · exact rstart_ok a n c l room now k ticks w hl hn hc h100 (by omega) (by omega) hw0 hw1
end Go.Proofs.Ythcbacflopbkdaa
