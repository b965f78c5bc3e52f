/- The law's same and Same: the program's timer and the document's are alike. -/
import Derived.Test.YthcbacflopbkdaaTmJ
import Derived.Test.YthcbacflopbkdaaTmM
import Derived.Test.YthcbacflopbkdaaQuietR
namespace Go.Proofs.Ythcbacflopbkdaa
open Go Go.RowKit Go.Shelf
attribute [local go_sem] Oper.semAt_some
theorem Iz.kept {w w2 : World} {a : Option Addr} {l : List Int} (h : Iz w a l) (hk : Kept [] w w2) : Iz w2 a l := fun i hi => by
  obtain ⟨g, off, h1, h2⟩ := h i hi
  exact ⟨g, off, h1, kept_c2 hk h2⟩
set_option maxHeartbeats 1600000 in
theorem isame_eq (a b : Option Addr) (n c d : Nat) (l : List Int) (w : World) (ha : Iz w a l) (hb : Iz w b l) (hn : l.length = n) (h1 : n ≤ 1000000) :
    Calls Try.prog 17 #[.slice a n c, .slice b n d] w fun e w' => e = .returned (.bool true) ∧ Kept [] w w' := by
  have HA := hx ha
  have HB := hx hb
  have HN := hx hn
  clear ha hb hn
  go_enter Try.func17, Try.ntmps17
  go_wp2
  go_loopw [5] (fun iv wr => ∃ i : Nat, i ≤ n ∧ iv = .int .i64 i ∧ Kept [] w wr) (fun iv _ => n - (intOf iv).toNat)
  case atStart => exact ⟨0, by omega, rfl, Kept.refl _ _⟩
  case round =>
    obtain ⟨i, hi, rfl, hk⟩ := hrel
    have HK := hx hk
    clear hk
    by_cases hlt : i < n
    · have hli : (i : Int) < (n : Int) := by omega
      have hi0 : (0 : Int) ≤ (i : Int) := by omega
      obtain ⟨g, off, rfl, e1⟩ := (HA.out.kept HK.out) i (by have := HN.out; omega)
      obtain ⟨g2, off2, rfl, e2⟩ := (HB.out.kept HK.out) i (by have := HN.out; omega)
      generalize l.getD i 0 = y at *
      go_wp2_with fail
      go_quiet (fail)
      have HK2 := hx (HK.out.trans0 ((Kept.refl [] wr).drewN nq))
      clear HK e1 e2
      go_wp2
      go_roundw
      case rel => exact ⟨i + 1, by omega, by go_num, HK2.out⟩
      case measure => simp [intOf] <;> omega
    · have hli : ¬ (i : Int) < (n : Int) := by omega
      go_wp2
      go_ret
      exact ⟨rfl, HK.out⟩
theorem func_ne (b : Nat) (w : World) : (binOp .eql 76 (.func (.func 41) #[] #[.pointer (some ⟨b, 0, none⟩)]) .nilFunc).run Try.prog w = .ok (.bool false) w := by kernel_rfl
theorem zeroInt (w : World) : (zeroValue 3).run Try.prog w = .ok (.int .i64 0) w := by kernel_rfl
theorem zeroBool (w : World) : (zeroValue 4).run Try.prog w = .ok (.bool false) w := by kernel_rfl
theorem pre_step {α : Type} [DecidableEq α] (l pre : List α) (x d : α) (h : pre <+: l) (hl : pre.length < l.length) : (x = l.getD pre.length d → pre ++ [x] <+: l) ∧ (x ≠ l.getD pre.length d → ¬ (pre ++ [x] <+: l)) := by
  obtain ⟨t, rfl⟩ := h
  cases t with
  | nil => simp at hl
  | cons y t =>
    have e : (pre ++ y :: t).getD pre.length d = y := by simp [List.getD]
    rw [e]
    refine ⟨fun hxy => ⟨t, by rw [hxy]; simp⟩, fun hxy ⟨u, hu⟩ => ?_⟩
    rw [List.append_assoc] at hu
    have h2 := List.append_cancel_left hu
    simp at h2
    exact hxy h2.1
theorem res_cell1 {P : Program} {w : World} {fn : Func} {p : Tmp} {ty : TypeId} (h : fn.results = #[.cell p ty]) (tmps : Array Value) (g : Nat) (v : Value) (hp : tmps.getD p undef = .pointer (some ⟨g, 0, none⟩)) (hc : w.cell? ⟨g, 0, none⟩ = some v) {d : TypeDesc} (hu : P.underlying ty = some d) (hd : d.isRow = false) : (results fn tmps).run P w = .ok v w := by
  have hp' : tmps[p]?.getD undef = .pointer (some ⟨g, 0, none⟩) := by simpa using hp
  have hag : (isAgg ty).run P w = .ok false w := by
    unfold isAgg
    rw [Sem.run_bind, run_underlying hu w]
    cases d <;> simp_all
  simp [results, h, hp', asAddr, loadVar, Sem.run_bind, hag, run_load, hc]
set_option maxRecDepth 100000 in
set_option maxHeartbeats 12000000 in
theorem tsame_any (q : Nat) (v : Value) (room now no rm : Int) (h s : List En) (a : Option Addr) (n c : Nat) (w : World) (hS : Ts w q v room now no h) (hP : Tp h s now no) (hL : L2 w 46 a (s.map pr)) (hn : s.length = n) (h100 : n ≤ 1000) :
    Calls Try.prog 20 #[.pointer (some ⟨q, 0, none⟩), .agg #[.int .i64 rm, .int .i64 now, .slice a n c]] w fun e w' => e = .returned (.bool true) ∧ Kept [] w w' := by
  have HS := hx hS
  have HP := hx hP
  have HL := hx hL
  have HN := hx hn
  have hhl : h.length = n := by rw [← hP.len, hn]
  have HHL := hx hhl
  obtain ⟨p1, p3, hpp⟩ : ∃ p1 p3, nextV now s = (p1, p3) := ⟨_, _, rfl⟩
  have HNX := hx (fun w (hs : Ts w q v room now no h) => show Calls Try.prog 31 #[.pointer (some ⟨q, 0, none⟩)] w fun e w' => e = .returned (.tuple #[.int .i64 p1, .bool p3]) ∧ Kept [] w w' by
    have h1 := tnext_any q v room now no h s w hs hP (by omega)
    rw [hpp] at h1
    exact h1)
  have hpk : (s = [] ∧ (p1 = 0 ∧ p3 = false) ∧ n = 0) ∨ (∃ x s', s = x :: s' ∧ (p1 = x.due - now ∧ p3 = true) ∧ 0 < n) := by
    cases s with
    | nil =>
      simp only [nextV, Prod.mk.injEq] at hpp
      exact .inl ⟨rfl, ⟨hpp.1.symm, hpp.2.symm⟩, by simpa using hn.symm⟩
    | cons x s' =>
      simp only [nextV, Prod.mk.injEq] at hpp
      exact .inr ⟨x, s', rfl, ⟨hpp.1.symm, hpp.2.symm⟩, by simp at hn; omega⟩
  have HPV := hx hpk
  clear hS hP hL hn hhl hpk hpp
  refine (callsIn_wide (n := 6)).1 ?_
  refine callsIn_of_wp_marks Try.func20 rfl trivial ?_ rfl
  simp only [Try.ntmps20, List.size_toArray, List.length_cons, List.length_nil, Nat.reduceAdd, Nat.reduceSub, Array.replicate_succ, Array.replicate_zero, List.push_toArray, List.append_toArray, List.nil_append, List.cons_append]
  refine wpIn_wide.2 ?_
  go_wp2_with fail
  have B3 := hx ((Blk.new w [.int .i64 rm, .int .i64 now, .slice a n c] 34).alloc (.cells #[.bool false] 4))
  have B4 := hx (show Blk ((w.alloc (.cells #[.int .i64 rm, .int .i64 now, .slice a n c] 34)).alloc (.cells #[.bool false] 4)) (w.heap.size + 1) [.bool false] 4 by
    have h := Blk.new (w.alloc (.cells #[.int .i64 rm, .int .i64 now, .slice a n c] 34)) [.bool false] 4
    rw [World.size_alloc] at h
    exact h)
  have K0 := hx (((Kept.refl [] w).alloc (.cells #[.int .i64 rm, .int .i64 now, .slice a n c] 34)).alloc (.cells #[.bool false] 4))
  generalize (w.alloc (.cells #[.int .i64 rm, .int .i64 now, .slice a n c] 34)).alloc (.cells #[.bool false] 4) = W0 at *
  refine (HNX.out W0 (HS.out.kept K0.out)).mono ?_
  rintro e w1 ⟨rfl, hk1⟩
  have B31 := hx (hk1.blk B3.out (by simp))
  have B41 := hx (hk1.blk B4.out (by simp))
  have K1 := hx (K0.out.trans0 hk1)
  clear B3 B4 K0 hk1 HNX
  go_upto_region 2 with fail
  go_cut [59] from 16 to 60 (fun s59 wx => s59 = .bool false ∧ Kept [] w1 wx)
  case first =>
    have c1 := B31.out.cell (i := 1) rfl
    have c2 := B31.out.cell (i := 2) rfl
    have HNQ := hx (fun m => show Calls Try.prog 18 #[.pointer (some ⟨q, 0, none⟩)] (w1.drewN m) fun e w' => e = .returned (.int .i64 now) ∧ w' = w1.drewN m by
      have h1 := tnow_any q v room now no h (w1.drewN m) (HS.out.kept (K1.out.drewN m))
      exact h1.mono fun e w' ⟨h2, h3⟩ => ⟨h2, h3.symm⟩)
    rcases HPV.out with ⟨hs, ⟨rfl, rfl⟩, rfl⟩ | ⟨x, s', hs, ⟨rfl, rfl⟩, hpos⟩
    · clear hs
      have HLQ := hx (fun m => show Calls Try.prog 21 #[.pointer (some ⟨q, 0, none⟩)] (w1.drewN m) fun e w' => e = .returned (.int .i64 ((0 : Nat) : Int)) ∧ w' = w1.drewN m by
        have h1 := tlen_any q v room now no h (w1.drewN m) (HS.out.kept (K1.out.drewN m))
        rw [HHL.out] at h1
        exact h1.mono fun e w' ⟨h2, h3⟩ => ⟨h2, h3.symm⟩)
      go_quiet (first | (go_at_call 21; refine Calls.quiet_of_same (HLQ.out _)) | (go_at_call 18; refine Calls.quiet_of_same (HNQ.out _)))
      have HKd := hx ((Kept.refl [] w1).drewN nq)
      go_wp2_with fail
      go_meet
      exact ⟨rfl, HKd.out⟩
    · have hil : 0 < (s.map pr).length := by rw [hs]; simp
      obtain ⟨g, off, rfl, e1, e2⟩ := (HL.out.kept K1.out).cell 0 hil
      have ey : (s.map pr).getD 0 (0, 0) = (x.key, x.due) := by rw [hs]; rfl
      rw [ey] at e1 e2
      simp only [Nat.zero_mul, Nat.add_zero] at e1 e2
      have hpi : (0 : Int) < (n : Int) := by omega
      have hpd : decide ((0 : Int) < (n : Int)) = true := by simpa using hpi
      have hdx := HP.out.due x (by rw [hs]; simp)
      have hn0 := HP.out.now0
      have hn1 := HP.out.now1
      have hsub : IntKind.i64.wrap (x.due - now) = x.due - now := IntWalk.i64_in _ (by omega)
      clear hs hil ey hdx hn0 hn1
      have HLQ := hx (fun m => show Calls Try.prog 21 #[.pointer (some ⟨q, 0, none⟩)] (w1.drewN m) fun e w' => e = .returned (.int .i64 ((n : Nat) : Int)) ∧ w' = w1.drewN m by
        have h1 := tlen_any q v room now no h (w1.drewN m) (HS.out.kept (K1.out.drewN m))
        rw [HHL.out] at h1
        exact h1.mono fun e w' ⟨h2, h3⟩ => ⟨h2, h3.symm⟩)
      go_quiet (first | (go_at_call 21; refine Calls.quiet_of_same (HLQ.out _)) | (go_at_call 18; refine Calls.quiet_of_same (HNQ.out _)))
      have HKd := hx ((Kept.refl [] w1).drewN nq)
      go_wp2_with fail
      go_meet
      exact ⟨rfl, HKd.out⟩
  case rest =>
    obtain ⟨rfl, hk2⟩ := hcut
    have B32 := hx (hk2.blk B31.out (by simp))
    have B42 := hx (hk2.blk B41.out (by simp))
    have K2 := hx (K1.out.trans0 hk2)
    clear B31 B41 K1 hk2 HPV
    have hbn := func_ne wc.heap.size
    have HZ3 := hx zeroInt
    have hzi := zeroInt
    go_wp2_with fail
    refine (tall_any q wc).mono ?_
    rintro e w5 ⟨rfl, rfl⟩
    have BQ := hx (Blk.new wc [.pointer (some ⟨q, 0, none⟩)] 31)
    have B33 := hx (B32.out.alloc (.cells #[.pointer (some ⟨q, 0, none⟩)] 31))
    have B43 := hx (B42.out.alloc (.cells #[.pointer (some ⟨q, 0, none⟩)] 31))
    have K3 := hx (K2.out.alloc (.cells #[.pointer (some ⟨q, 0, none⟩)] 31))
    go_upto_region 7 with fail
    clear hbn
    generalize wc.heap.size = bq at *
    generalize wc.alloc (.cells #[.pointer (some ⟨q, 0, none⟩)] 31) = w5 at *
    have B9 := hx (Blk.new w5 [.int .i64 0] 3)
    have B34 := hx (B33.out.alloc (.cells #[.int .i64 0] 3))
    have B44 := hx (B43.out.alloc (.cells #[.int .i64 0] 3))
    have BQ4 := hx (BQ.out.alloc (.cells #[.int .i64 0] 3))
    have K4 := hx (K3.out.alloc (.cells #[.int .i64 0] 3))
    have HNE := hx (And.intro B43.out.lt K3.out.size)
    have HQN := hx (show bq < w5.heap.size from BQ.out.lt)
    go_wp2_with fail
    clear hzi
    generalize w5.heap.size = b9 at *
    generalize w5.alloc (.cells #[.int .i64 0] 3) = w6 at *
    have HST := hx (tall_stops 5 bq q v room now no h s (fun b _ => b = b9) w6 BQ4.out (HS.out.kept K4.out) HP.out (by have := HQN.out; omega) (by have h1 := HS.out.hq.lt; have h2 := HNE.out; omega) (by intro b hb; have := B9.out.lt; omega) (by have := HHL.out; omega) (by omega))
    have HLT := hx (And.intro B9.out.lt (And.intro B34.out.lt (And.intro B44.out.lt K4.out.size)))
    refine (wpIn_wide (n := 6)).1 ?_
    apply rangeY (F := Fence.wide) (n := 6) (gf := 41) (lb := #[.pointer (some ⟨bq, 0, none⟩)]) (encs := encL now) (Kp := KpP (fun b _ => b = b9)) (S := fun xs => xs = s) (Sp := fun pre => pre <+: s) (N := s.length) rfl (by omega) rfl trivial (enters_of Try.func41 (by kernel_rfl) rfl) HST.out kpp_t (fun W l o o' _ h hc => kpp_b W l o o' h hc) (fun _ => rfl)
      (fun pre W => (pre.map pr) <+: s.map pr ∧ Blk W b9 [.int .i64 (pre.length : Int)] 3 ∧ Blk W w.heap.size [.int .i64 rm, .int .i64 now, .slice a n c] 34 ∧ Blk W (w.heap.size + 1) [.bool false] 4 ∧ Kept [] w W)
      (fun cd pre _ => cd = .ret ∧ ¬ (pre.map pr <+: s.map pr))
      ⟨fun A C ⟨h1, h2, h3, h4, h5⟩ hb => ⟨h1, h2.below hb HLT.out.1, h3.below hb HLT.out.2.1, h4.below hb HLT.out.2.2.1, h5.below hb HLT.out.2.2.2⟩, fun pre A C ⟨h1, h2, h3, h4, h5⟩ hb => ⟨h1, hb.blk h2, hb.blk h3, hb.blk h4, hb.kept h5 HLT.out.2.2.2⟩⟩
      (fun _ _ _ _ h _ => h)
      ⟨List.nil_prefix, B9.out, B34.out, B44.out, K4.out⟩
    case hassign =>
      intro l x W K hK
      gi_wp2
      exact hK
    case hbody =>
      rintro l pre x W ⟨hpre, hb9, hb3, hb4, hk⟩ hlen
      have hlm : (pre.map pr).length < (s.map pr).length := by simpa using hlen
      have hpl : (pre.map pr).length = pre.length := by simp
      obtain ⟨g, off, rfl, e1, e2⟩ := (HL.out.kept hk).cell pre.length (by simpa using hlen)
      have c9 := hb9.cell (i := 0) rfl
      have f9 := hb9.free
      have f4 := hb4.free
      have c4 := hb4.cell (i := 0) rfl
      have c31 := hb3.cell (i := 1) rfl
      have c32 := hb3.cell (i := 2) rfl
      have hkn : (pre.length : Int) < (n : Int) := by have h1 := HN.out; omega
      have hkd : decide (n ≤ pre.length) = false := decide_eq_false (by omega)
      have hk0 : (0 : Int) ≤ (pre.length : Int) := by omega
      have HPX := hx (pre_step (s.map pr) (pre.map pr) (pr x) (0, 0) hpre hlm)
      rw [hpl] at HPX
      have HNE2 := hx (show b9 ≠ w.heap.size ∧ b9 ≠ w.heap.size + 1 by have h1 := HNE.out; omega)
      have HB := hx (And.intro hb9 (And.intro hb3 (And.intro hb4 hk)))
      have hy : ∃ z, z ∈ s ∧ (s.map pr).getD pre.length (0, 0) = pr z := ⟨s.getD pre.length en0, by simp [List.getD, hlen], by simp [List.getD, hlen]⟩
      obtain ⟨z, hz, hzy⟩ := hy
      have hdz := HP.out.due z hz
      have hn0 := HP.out.now0
      have hn1 := HP.out.now1
      have hsub : IntKind.i64.wrap (z.due - now) = z.due - now := IntWalk.i64_in _ (by omega)
      rw [hzy] at HPX e1 e2
      have HXZ := hx (show pr x = pr z ↔ (x.key = z.key ∧ x.due = z.due) by unfold pr; simp)
      simp only [pr] at e1 e2
      have HLN := hx (show ((pre ++ [x]).length : Int) = (pre.length : Int) + 1 by simp)
      clear hpre hb9 hb3 hb4 hk hlen hlm hpl hz hzy hdz hn0 hn1
      by_cases hx1 : x.key = z.key
      · have hd1 : (x.key != z.key) = false := by simp [hx1]
        by_cases hx2 : x.due = z.due
        · have HP2 := hx (show (pre ++ [x]).map pr <+: s.map pr by rw [List.map_append]; exact HPX.out.1 (HXZ.out.2 ⟨hx1, hx2⟩))
          have hd2 : (x.due - now != z.due - now) = false := by simp [hx2]
          clear hx1 hx2 HPX
          gi_wp2_with fail
          refine wpIn_region_quietR (by kernel_rfl) (by kernel_rfl) (by kernel_rfl) ?_
          repeat (quiet_step_in (fail))
          refine wpQuietIn_nil ?_
          intro _ hw'
          obtain ⟨nq, hw''⟩ := hw'
          subst hw''
          have HD := hx ((Kept.refl [] W).drewN nq)
          gi_wp2
          refine ⟨(show KeepsOthers W (W.drewN nq) from ⟨Nat.le_refl _, fun _ _ h _ => h⟩).trans (KeepsOthers.setCell _ _ _), ?_, HP2.out, ?_, ?_, ?_, ?_⟩
          · exact KpP.of ((HD.out.mono (cs := [b9]) (by simp)).setCell (p := ⟨b9, 0, none⟩) (.inl (by simp)) _) (by simp)
          · rw [HLN.out]; exact (HB.out.1.drewN nq).set 0 _
          · exact (HB.out.2.1.drewN nq).set_ne (Ne.symm HNE2.out.1) _
          · exact (HB.out.2.2.1.drewN nq).set_ne (Ne.symm HNE2.out.2) _
          · exact (HB.out.2.2.2.drewN nq).setCell (.inr (by have h1 := HNE.out; simp; omega)) _
        · have HP2 := hx (show ¬ (pre ++ [x]).map pr <+: s.map pr by rw [List.map_append]; exact HPX.out.2 (fun e => hx2 (HXZ.out.1 e).2))
          have hd2 : (x.due - now != z.due - now) = true := by simp [bne]; omega
          clear hx1 hx2 HPX
          gi_wp2_with fail
          refine wpIn_region_quietR (by kernel_rfl) (by kernel_rfl) (by kernel_rfl) ?_
          repeat (quiet_step_in (fail))
          refine wpQuietIn_nil ?_
          intro _ hw'
          obtain ⟨nq, hw''⟩ := hw'
          subst hw''
          gi_wp2
          exact ⟨(show KeepsOthers W (W.drewN nq) from ⟨Nat.le_refl _, fun _ _ h _ => h⟩).trans (KeepsOthers.setCell _ _ _), rfl, HP2.out⟩
      · have HP2 := hx (show ¬ (pre ++ [x]).map pr <+: s.map pr by rw [List.map_append]; exact HPX.out.2 (fun e => hx1 (HXZ.out.1 e).1))
        have hd1 : (x.key != z.key) = true := by simp [bne, hx1]
        clear hx1 HPX
        gi_wp2_with fail
        refine wpIn_region_quietR (by kernel_rfl) (by kernel_rfl) (by kernel_rfl) ?_
        repeat (quiet_step_in (fail))
        refine wpQuietIn_nil ?_
        intro _ hw'
        obtain ⟨nq, hw''⟩ := hw'
        subst hw''
        gi_wp2
        exact ⟨(show KeepsOthers W (W.drewN nq) from ⟨Nat.le_refl _, fun _ _ h _ => h⟩).trans (KeepsOthers.setCell _ _ _), rfl, HP2.out⟩
    case hdone =>
      rintro D xs W hD rfl ⟨hpre, hb9, hb3, hb4, hk⟩ hK
      have hml : ((xs.length : Nat) : Int) = (n : Int) := by have h1 := HN.out; omega
      rw [hml] at hb9
      have c9 := hb9.cell (i := 0) rfl
      have f4 := hb4.free
      have c4 := hb4.cell (i := 0) rfl
      have c32 := hb3.cell (i := 2) rfl
      have HB := hx (hb4.set 0 (.bool true))
      have HKK := hx (hk.setCell (p := ⟨w.heap.size + 1, 0, none⟩) (.inr (by simp)) (.bool true))
      have HKD := hx hK
      have HDD := hx hD
      clear hpre hml hb9 hb3 hb4 hk hK hD
      go_wp2
      have HK2 := (KeepsOthers.setCell W ⟨w.heap.size + 1, 0, none⟩ (.bool true)).same D _ HKD.out rfl
      have hne : w.heap.size + 1 ≠ D := by have h1 := HDD.out; have h2 := HLT.out.2.2.1; omega
      refine ⟨by simp, .inl ⟨_, _, rfl, run_takeDeferred HK2, ?_⟩⟩
      have hkn := keptN_put (B := D) (W.setCell ⟨w.heap.size + 1, 0, none⟩ (.bool true)) D _ (.deferred none) (Nat.le_refl _) HK2 rfl
      refine ⟨_, res_cell1 rfl _ (w.heap.size + 1) _ rfl ((hkn.blk HB.out).cell (i := 0) rfl) Try.underlying4 rfl, rfl, ?_⟩
      exact hkn.kept HKK.out (by have h1 := HDD.out; have h2 := HLT.out.2.2.2; omega)
    case hstop =>
      rintro D cd pre W _ hp ⟨_, hx⟩ _
      exact absurd (by obtain ⟨t, rfl⟩ := hp; exact ⟨t.map pr, by simp⟩) hx
end Go.Proofs.Ythcbacflopbkdaa
