/- Same: the queue and the document's are alike. -/
import Derived.Test.YthpdoekeooedfaaPrioZ
namespace Go.Proofs.Ythpdoekeooedfaa
open Go Go.RowKit Go.Shelf
attribute [local go_sem] Oper.semAt_some
set_option maxHeartbeats 800000 in
theorem all_any (q : Nat) (w : World) :
    Calls Try.prog 16 #[.pointer (some ⟨q, 0, none⟩)] w fun e w' => e = .returned (.func (.func 22) #[] #[.pointer (some ⟨w.heap.size, 0, none⟩)]) ∧ w' = w.alloc (.cells #[.pointer (some ⟨q, 0, none⟩)] 24) := by
  go_enter Try.func16, Try.ntmps16
  go_wp2
  go_ret
  exact ⟨rfl, rfl⟩
theorem func_ne (b : Nat) (w : World) : (binOp .eql 46 (.func (.func 22) #[] #[.pointer (some ⟨b, 0, none⟩)]) .nilFunc).run Try.prog w = .ok (.bool false) w := by kernel_rfl
theorem zeroInt (w : World) : (zeroValue 3).run Try.prog w = .ok (.int .i64 0) w := by kernel_rfl
theorem Blk.below {B : Nat} {A C : World} {b : Nat} {xs : List Value} {T : TypeId} (h : Blk A b xs T) (hb : Below B A C) (hlt : b < B) : Blk C b xs T := by
  unfold Blk at *
  rw [hb.block b hlt]
  exact h
theorem Kept.below {B : Nat} {w A C : World} (h : Kept [] w A) (hb : Below B A C) (hB : w.heap.size ≤ B) : Kept [] w C :=
  ⟨hb.os.trans h.os, hb.tape.trans h.tape, hb.output.trans h.output, Nat.le_trans h.size hb.size, fun k hk hn => (hb.block k (by omega)).trans (h.block k hk hn)⟩
theorem pre_step (l pre : List (Int × Int)) (x : Int × Int) (h : pre <+: l) (hl : pre.length < l.length) : (x = l.getD pre.length (0, 0) → pre ++ [x] <+: l) ∧ (x ≠ l.getD pre.length (0, 0) → ¬ (pre ++ [x] <+: l)) := by
  obtain ⟨t, rfl⟩ := h
  cases t with
  | nil => simp at hl
  | cons y t =>
    have e : (pre ++ y :: t).getD pre.length (0, 0) = y := by simp [List.getD]
    rw [e]
    refine ⟨fun hxy => ⟨t, by rw [hxy]; simp⟩, fun hxy ⟨u, hu⟩ => ?_⟩
    rw [List.append_assoc] at hu
    have h2 := List.append_cancel_left hu
    simp at h2
    exact hxy h2.1
theorem res_cell1 {P : Program} {w : World} {fn : Func} {p : Tmp} {ty : TypeId} (h : fn.results = #[.cell p ty]) (tmps : Array Value) (g : Nat) (v : Value) (hp : tmps.getD p undef = .pointer (some ⟨g, 0, none⟩)) (hc : w.cell? ⟨g, 0, none⟩ = some v) {d : TypeDesc} (hu : P.underlying ty = some d) (hd : d.isRow = false) : (results fn tmps).run P w = .ok v w := by
  have hp' : tmps[p]?.getD undef = .pointer (some ⟨g, 0, none⟩) := by simpa using hp
  have hag : (isAgg ty).run P w = .ok false w := by
    unfold isAgg
    rw [Sem.run_bind, run_underlying hu w]
    cases d <;> simp_all
  simp [results, h, hp', asAddr, loadVar, Sem.run_bind, hag, run_load, hc]
theorem len0 {h : List It} {T : Int} {s : List It} (r : Rp h T s) : (h.length : Int) = (s.length : Int) := by rw [r.len]
set_option maxRecDepth 100000 in
set_option maxHeartbeats 12000000 in
theorem same_any (q : Nat) (v : Value) (room turns T : Int) (h s : List It) (a : Option Addr) (n c : Nat) (w : World) (hQ : Qs w q v room turns h) (hR : Rp h T s) (hL : Ls w a (s.map pr)) (hn : s.length = n) (h100 : n ≤ 100) :
    Calls Try.prog 21 #[.pointer (some ⟨q, 0, none⟩), .agg #[.int .i64 room, .slice a n c]] w fun e w' => e = .returned (.bool true) ∧ Kept [] w w' := by
  have HQ := hx hQ
  have HR := hx hR
  have HL := hx hL
  have HN := hx hn
  have hhl : h.length = n := by rw [← hR.len, hn]
  have HHL := hx hhl
  obtain ⟨p1, p2, p3, hpp⟩ : ∃ p1 p2 p3, peekV h = (p1, p2, p3) := ⟨_, _, _, rfl⟩
  have HPK := hx (fun w (s : Qs w q v room turns h) => show Calls Try.prog 30 #[.pointer (some ⟨q, 0, none⟩)] w fun e w' => e = .returned (.tuple #[.int .i64 p1, .int .i64 p2, .bool p3]) ∧ Kept [] w w' by
    have h1 := peek_any q v room turns h w s
    rw [hpp] at h1
    exact h1)
  have hpk : (s = [] ∧ (p1 = 0 ∧ p2 = 0 ∧ p3 = false) ∧ n = 0) ∨ (∃ x s', s = x :: s' ∧ (p1 = x.v ∧ p2 = x.rank ∧ p3 = true) ∧ 0 < n) := by
    cases s with
    | nil =>
      obtain rfl : h = [] := List.eq_nil_of_length_eq_zero (by have := hR.len; simpa using this.symm)
      simp only [peekV, Prod.mk.injEq] at hpp
      exact .inl ⟨rfl, ⟨hpp.1.symm, hpp.2.1.symm, hpp.2.2.symm⟩, by simpa using hn.symm⟩
    | cons x s' =>
      obtain ⟨h1, _⟩ := hR.pop
      refine .inr ⟨x, s', rfl, ?_, by simp at hn; omega⟩
      cases h with
      | nil => have := hR.len; simp at this
      | cons y h =>
        simp [at_] at h1
        subst h1
        simp only [peekV, Prod.mk.injEq] at hpp
        exact ⟨hpp.1.symm, hpp.2.1.symm, hpp.2.2.symm⟩
  have HPV := hx hpk
  clear hQ hR hL hn hhl hpk hpp
  refine (callsIn_wide (n := 6)).1 ?_
  refine callsIn_of_wp_marks Try.func21 rfl trivial ?_ rfl
  simp only [Try.ntmps21, List.size_toArray, List.length_cons, List.length_nil, Nat.reduceAdd, Nat.reduceSub, Array.replicate_succ, Array.replicate_zero, List.push_toArray, List.append_toArray, List.nil_append, List.cons_append]
  refine wpIn_wide.2 ?_
  go_wp2_with fail
  have B3 := hx ((Blk.new w [.int .i64 room, .slice a n c] 41).alloc (.cells #[.bool false] 4))
  have B4 := hx (show Blk ((w.alloc (.cells #[.int .i64 room, .slice a n c] 41)).alloc (.cells #[.bool false] 4)) (w.heap.size + 1) [.bool false] 4 by
    have h := Blk.new (w.alloc (.cells #[.int .i64 room, .slice a n c] 41)) [.bool false] 4
    rw [World.size_alloc] at h
    exact h)
  have K0 := hx (((Kept.refl [] w).alloc (.cells #[.int .i64 room, .slice a n c] 41)).alloc (.cells #[.bool false] 4))
  generalize (w.alloc (.cells #[.int .i64 room, .slice a n c] 41)).alloc (.cells #[.bool false] 4) = W0 at *
  refine (HPK.out W0 (HQ.out.kept K0.out)).mono ?_
  rintro e w1 ⟨rfl, hk1⟩
  have B31 := hx (hk1.blk B3.out (by simp))
  have B41 := hx (hk1.blk B4.out (by simp))
  have K1 := hx (K0.out.trans0 hk1)
  clear B3 B4 K0 hk1 HPK
  go_upto_region 2 with fail
  go_cut [71] from 18 to 72 (fun s71 wx => s71 = .bool false ∧ Kept [] w1 wx)
  case first =>
    have c0 := B31.out.cell (i := 0) rfl
    have c1 := B31.out.cell (i := 1) rfl
    rcases HPV.out with ⟨hs, ⟨rfl, rfl, rfl⟩, rfl⟩ | ⟨x, s', hs, ⟨rfl, rfl, rfl⟩, hpos⟩
    · clear hs
      have HLQ := hx (fun m => show Calls Try.prog 11 #[.pointer (some ⟨q, 0, none⟩)] (w1.drewN m) fun e w' => e = .returned (.int .i64 ((0 : Nat) : Int)) ∧ w' = w1.drewN m by
        have h1 := len_any q v room turns h (w1.drewN m) (HQ.out.kept (K1.out.drewN m))
        rw [HHL.out] at h1
        exact h1.mono fun e w' ⟨h2, h3⟩ => ⟨h2, h3.symm⟩)
      have HRQ := hx (fun m => show Calls Try.prog 31 #[.pointer (some ⟨q, 0, none⟩)] (w1.drewN m) fun e w' => e = .returned (.int .i64 room) ∧ w' = w1.drewN m by
        have h1 := room_any q v room turns h (w1.drewN m) (HQ.out.kept (K1.out.drewN m))
        exact h1.mono fun e w' ⟨h2, h3⟩ => ⟨h2, h3.symm⟩)
      go_quiet (first | (go_at_call 11; refine Calls.quiet_of_same (HLQ.out _)) | (go_at_call 31; refine Calls.quiet_of_same (HRQ.out _)))
      have HKd := hx ((Kept.refl [] w1).drewN nq)
      go_wp2_with fail
      go_meet
      exact ⟨rfl, HKd.out⟩
    · have hil : 0 < (s.map pr).length := by rw [hs]; simp
      obtain ⟨g, off, rfl, e1, e2⟩ := (HL.out.kept K1.out) 0 hil
      have ey : (s.map pr).getD 0 (0, 0) = (x.rank, x.v) := by rw [hs]; rfl
      rw [ey] at e1 e2
      simp only [Nat.zero_mul, Nat.add_zero] at e1 e2
      have hpi : (0 : Int) < (n : Int) := by omega
      have hpd : decide ((0 : Int) < (n : Int)) = true := by simpa using hpi
      clear hs hil ey
      have HLQ := hx (fun m => show Calls Try.prog 11 #[.pointer (some ⟨q, 0, none⟩)] (w1.drewN m) fun e w' => e = .returned (.int .i64 ((n : Nat) : Int)) ∧ w' = w1.drewN m by
        have h1 := len_any q v room turns h (w1.drewN m) (HQ.out.kept (K1.out.drewN m))
        rw [HHL.out] at h1
        exact h1.mono fun e w' ⟨h2, h3⟩ => ⟨h2, h3.symm⟩)
      have HRQ := hx (fun m => show Calls Try.prog 31 #[.pointer (some ⟨q, 0, none⟩)] (w1.drewN m) fun e w' => e = .returned (.int .i64 room) ∧ w' = w1.drewN m by
        have h1 := room_any q v room turns h (w1.drewN m) (HQ.out.kept (K1.out.drewN m))
        exact h1.mono fun e w' ⟨h2, h3⟩ => ⟨h2, h3.symm⟩)
      go_quiet (first | (go_at_call 11; refine Calls.quiet_of_same (HLQ.out _)) | (go_at_call 31; refine Calls.quiet_of_same (HRQ.out _)))
      have HKd := hx ((Kept.refl [] w1).drewN nq)
      go_wp2_with fail
      go_meet
      exact ⟨rfl, HKd.out⟩
  case rest =>
    obtain ⟨rfl, hk2⟩ := hcut
    have B32 := hx (hk2.blk B31.out (by simp))
    have B42 := hx (hk2.blk B41.out (by simp))
    have K2 := hx (K1.out.trans0 hk2)
    clear B31 B41 K1 hk2 HPV
    have hbn := func_ne wc.heap.size
    have HZ3 := hx zeroInt
    have hzi := zeroInt
    go_wp2_with fail
    refine (all_any q wc).mono ?_
    rintro e w5 ⟨rfl, rfl⟩
    have BQ := hx (Blk.new wc [.pointer (some ⟨q, 0, none⟩)] 24)
    have B33 := hx (B32.out.alloc (.cells #[.pointer (some ⟨q, 0, none⟩)] 24))
    have B43 := hx (B42.out.alloc (.cells #[.pointer (some ⟨q, 0, none⟩)] 24))
    have K3 := hx (K2.out.alloc (.cells #[.pointer (some ⟨q, 0, none⟩)] 24))
    go_upto_region 7 with fail
    clear hbn
    generalize wc.heap.size = bq at *
    generalize wc.alloc (.cells #[.pointer (some ⟨q, 0, none⟩)] 24) = w5 at *
    have B9 := hx (Blk.new w5 [.int .i64 0] 3)
    have B34 := hx (B33.out.alloc (.cells #[.int .i64 0] 3))
    have B44 := hx (B43.out.alloc (.cells #[.int .i64 0] 3))
    have BQ4 := hx (BQ.out.alloc (.cells #[.int .i64 0] 3))
    have K4 := hx (K3.out.alloc (.cells #[.int .i64 0] 3))
    have HNE := hx (And.intro B43.out.lt K3.out.size)
    go_wp2_with fail
    clear hzi
    generalize w5.heap.size = b9 at *
    generalize w5.alloc (.cells #[.int .i64 0] 3) = w6 at *
    have HST := hx (all_stops 5 bq q v room turns T h s [b9, w.heap.size + 1] w6 (BQ4.out.cell rfl) (HQ.out.kept K4.out) HR.out (by
      intro b hb
      simp only [List.mem_cons, List.not_mem_nil, or_false] at hb
      rcases hb with rfl | rfl
      · exact B9.out.lt
      · exact B44.out.lt) (by have := HHL.out; omega) (by omega))
    have HLT := hx (And.intro B9.out.lt (And.intro B34.out.lt (And.intro B44.out.lt K4.out.size)))
    refine (wpIn_wide (n := 6)).1 ?_
    apply rangeX (F := Fence.wide) (n := 6) (gf := 22) (lb := #[.pointer (some ⟨bq, 0, none⟩)]) (encs := encA) (Kp := KpC [b9, w.heap.size + 1]) (S := fun xs => xs = s.map pr) (Sp := fun pre => pre <+: s.map pr) (N := s.length) rfl (by omega) rfl trivial (enters_of Try.func22 (by kernel_rfl) rfl) HST.out kpc_t (fun W l o o' _ h hc => kpc_b W l o o' h hc) (fun _ => rfl)
      (fun pre W => pre <+: s.map pr ∧ Blk W b9 [.int .i64 (pre.length : Int)] 3 ∧ Blk W w.heap.size [.int .i64 room, .slice a n c] 41 ∧ Blk W (w.heap.size + 1) [.bool false] 4 ∧ Kept [] w W)
      (fun cd pre _ => cd = .ret ∧ ¬ (pre <+: s.map pr))
      (fun pre A C ⟨h1, h2, h3, h4, h5⟩ hb => ⟨h1, h2.below hb HLT.out.1, h3.below hb HLT.out.2.1, h4.below hb HLT.out.2.2.1, h5.below hb HLT.out.2.2.2⟩)
      (fun _ _ _ _ h _ => h)
      ⟨List.nil_prefix, B9.out, B34.out, B44.out, K4.out⟩
    case hassign =>
      intro l x W K hK
      gi_wp2
      exact hK
    case hbody =>
      rintro l pre x W ⟨hpre, hb9, hb3, hb4, hk⟩ hlen
      have hlm : pre.length < (s.map pr).length := by simpa using hlen
      obtain ⟨g, off, rfl, e1, e2⟩ := (HL.out.kept hk) pre.length hlm
      have c9 := hb9.cell (i := 0) rfl
      have f9 := hb9.free
      have f4 := hb4.free
      have c4 := hb4.cell (i := 0) rfl
      have c31 := hb3.cell (i := 1) rfl
      have hkn : (pre.length : Int) < (n : Int) := by have h1 := HN.out; omega
      have hk100 : pre.length ≤ 100 := by have h1 := HN.out; omega
      have HPX := hx (pre_step (s.map pr) pre x hpre hlm)
      have HNE2 := hx (show b9 ≠ w.heap.size ∧ b9 ≠ w.heap.size + 1 by have h1 := HNE.out; omega)
      have HB := hx (And.intro hb9 (And.intro hb3 (And.intro hb4 hk)))
      generalize (s.map pr).getD pre.length (0, 0) = y at *
      obtain ⟨x1, x2⟩ := x
      obtain ⟨y1, y2⟩ := y
      simp only at e1 e2
      clear hpre hb9 hb3 hb4 hk hlen hlm
      by_cases hx1 : x1 = y1
      · subst hx1
        by_cases hx2 : x2 = y2
        · subst hx2
          have HP2 := hx (HPX.out.1 rfl)
          have hln : (((pre ++ [(x1, x2)]).length : Nat) : Int) = (pre.length : Int) + 1 := by simp
          have HLN := hx hln
          clear hln HPX
          gi_wp2
          refine ⟨KeepsOthers.setCell _ _ _, ⟨by simp [World.setCell], fun b o ho hc hn => Below.heap_setCell _ _ _ _ (by simp at hn; exact hn.1)⟩, HP2.out, ?_, ?_, ?_, ?_⟩
          · rw [HLN.out]; exact HB.out.1.set 0 _
          · exact HB.out.2.1.set_ne (Ne.symm HNE2.out.1) _
          · exact HB.out.2.2.1.set_ne (Ne.symm HNE2.out.2) _
          · exact HB.out.2.2.2.setCell (.inr (by have h1 := HNE.out; simp; omega)) _
        · have HP2 := hx (HPX.out.2 (fun e => hx2 (by simpa using e)))
          have hd2 : (x2 != y2) = true := by simp [bne, hx2]
          clear hx2 HPX
          gi_wp2
          exact ⟨KeepsOthers.setCell _ _ _, rfl, HP2.out⟩
      · have HP2 := hx (HPX.out.2 (fun e => hx1 (by have h1 := congrArg Prod.fst e; simpa using h1)))
        have hd1 : (x1 != y1) = true := by simp [bne, hx1]
        clear hx1 HPX
        gi_wp2
        exact ⟨KeepsOthers.setCell _ _ _, rfl, HP2.out⟩
    case hdone =>
      rintro D xs W hD rfl ⟨hpre, hb9, hb3, hb4, hk⟩ hK
      have hml : (((s.map pr).length : Nat) : Int) = (n : Int) := by have h1 := HN.out; simp; omega
      rw [hml] at hb9
      have c9 := hb9.cell (i := 0) rfl
      have f4 := hb4.free
      have c4 := hb4.cell (i := 0) rfl
      have c31 := hb3.cell (i := 1) rfl
      have HB := hx (hb4.set 0 (.bool true))
      have HKK := hx (hk.setCell (p := ⟨w.heap.size + 1, 0, none⟩) (.inr (by simp)) (.bool true))
      have HKD := hx hK
      have HDD := hx hD
      clear hpre hml hb9 hb3 hb4 hk hK hD
      go_wp2
      have HK2 := (KeepsOthers.setCell W ⟨w.heap.size + 1, 0, none⟩ (.bool true)).same D _ HKD.out rfl
      have hne : w.heap.size + 1 ≠ D := by have h1 := HDD.out; have h2 := HLT.out.2.2.1; omega
      refine ⟨by simp, .inl ⟨_, _, rfl, run_takeDeferred HK2, ?_⟩⟩
      refine ⟨_, res_cell1 rfl _ (w.heap.size + 1) _ rfl (Blk.cell (i := 0) (show Blk _ (w.heap.size + 1) [.bool true] 4 from (World.putObj_heap_other hne).trans HB.out) rfl) Try.underlying4 rfl, rfl, ?_⟩
      exact HKK.out.below (below_put _ D _ _ (Nat.le_refl D) HK2) (by have h1 := HDD.out; have h2 := HLT.out.2.2.2; omega)
    case hstop =>
      rintro D cd pre W _ hp ⟨_, hx⟩ _
      exact absurd hp hx
end Go.Proofs.Ythpdoekeooedfaa
