/- The law: each plays each. -/
import Derived.Test.YtgbikakhnmjllaaLadRm
import Derived.Test.YtgbikakhnmjllaaLadA
import Derived.Test.YtgbikakhnmjllaaQuietR
namespace Go.Proofs.Ytgbikakhnmjllaa
open Go Go.RowKit Go.Shelf
attribute [local go_sem] Oper.semAt_some
theorem LsY.kpc {bs : List Nat} {T : TypeId} {A C : World} {a : Option Addr} {l : List (Int × Int)} (h : LsY T A a l) (hk : KpC bs A C) (hb : ∀ b, b ∈ bs → ∀ xs, ¬ Blk A b xs T) : LsY T C a l := by
  have hne : l ≠ [] → ∃ g off xs, a = some ⟨g, off, none⟩ ∧ Blk A g xs T ∧ C.heap[g]? = A.heap[g]? := fun hl => by
    obtain ⟨g, off, xs, h1, h2⟩ := h.2 hl
    exact ⟨g, off, xs, h1, h2, hk.same g _ h2 rfl (fun hc => hb g hc xs h2)⟩
  refine ⟨fun i hi => ?_, fun hl => ?_⟩
  · obtain ⟨g, off, h1, h2, h3⟩ := h.1 i hi
    obtain ⟨g', off', xs, h4, _, h6⟩ := hne (by intro e; rw [e] at hi; simp at hi)
    rw [h1] at h4
    simp only [Option.some.injEq, Addr.mk.injEq, and_true] at h4
    obtain ⟨rfl, rfl⟩ := h4
    refine ⟨g, off, h1, ?_, ?_⟩
    · rw [← h2]; unfold World.cell?; simp only [h6]
    · rw [← h3]; unfold World.cell?; simp only [h6]
  · obtain ⟨g, off, xs, h1, h2, h3⟩ := hne hl
    exact ⟨g, off, xs, h1, h3.trans h2⟩
theorem gr_put {N : Nat} (pre : List Rx) (x : Rx) (W : World) (l : Nat) (o o' : Obj) (hl : W.heap[l]? = some o) (hc : o.isCells = false) (h : GR N pre x W) : GR N pre x (W.putObj l o') :=
  ⟨h.1, h.2.1, h.2.2.1, h.2.2.2.kpc (kpc_b (bs := []) W l o o' hl hc) (by simp)⟩
theorem func_neR (a b : Nat) (w : World) : (binOp .eql 43 (.func (.func 24) #[] #[.pointer (some ⟨a, 0, none⟩), .pointer (some ⟨b, 0, none⟩)]) .nilFunc).run Try.prog w = .ok (.bool false) w := by kernel_rfl
theorem zeroMet : ∃ Z : Array Value, Z.toList = metC [] ∧ ∀ w, (zeroValue 48).run Try.prog w = .ok (.agg Z) w := ⟨(List.replicate 1024 (.int .i64 0)).toArray, by rw [met_nil], fun w => by kernel_rfl⟩
theorem zeroBus : ∃ Z : Array Value, Z.toList = busC [] ∧ ∀ w, (zeroValue 51).run Try.prog w = .ok (.agg Z) w := ⟨(List.replicate 32 (.bool false)).toArray, by rw [bus_nil], fun w => by kernel_rfl⟩
theorem res_cell1 {P : Program} {w : World} {fn : Func} {p : Tmp} {ty : TypeId} (h : fn.results = #[.cell p ty]) (tmps : Array Value) (g : Nat) (v : Value) (hp : tmps.getD p undef = .pointer (some ⟨g, 0, none⟩)) (hc : w.cell? ⟨g, 0, none⟩ = some v) {d : TypeDesc} (hu : P.underlying ty = some d) (hd : d.isRow = false) : (results fn tmps).run P w = .ok v w := by
  have hp' : tmps[p]?.getD undef = .pointer (some ⟨g, 0, none⟩) := by simpa using hp
  have hag : (isAgg ty).run P w = .ok false w := by
    unfold isAgg
    rw [Sem.run_bind, run_underlying hu w]
    cases d <;> simp_all
  simp [results, h, hp', asAddr, loadVar, Sem.run_bind, hag, run_load, hc]
theorem Blk.below {B : Nat} {A C : World} {b : Nat} {xs : List Value} {T : TypeId} (h : Blk A b xs T) (hb : Below B A C) (hlt : b < B) : Blk C b xs T := by
  unfold Blk at *
  rw [hb.block b hlt]
  exact h
theorem Kept.below {B : Nat} {w A C : World} (h : Kept [] w A) (hb : Below B A C) (hB : w.heap.size ≤ B) : Kept [] w C :=
  ⟨hb.os.trans h.os, hb.tape.trans h.tape, hb.output.trans h.output, Nat.le_trans h.size hb.size, fun k hk hn => (hb.block k (by omega)).trans (h.block k hk hn)⟩
theorem Blk.ty {w : World} {b : Nat} {xs ys : List Value} {T U : TypeId} (h : Blk w b xs T) (k : Blk w b ys U) : T = U := by
  unfold Blk at *
  rw [h] at k
  simp only [Option.some.injEq, Obj.cells.injEq] at k
  exact k.2.1
theorem wpIn_one {F : Fence} {n : Nat} {P : Program} {c : Code} {Q : Exit → Act → World → Prop} {a : Act} {w : World} {AF : Act} {WF : World} (h : c.wpIn F n P (fun e a' w' => e = .normal ∧ a' = AF ∧ w' = WF) a w) (hq : Q .normal AF WF) : c.wpIn F n P Q a w :=
  wpIn_mono h (by rintro e a' w' ⟨rfl, rfl, rfl⟩; exact hq)
/-- The round's state. -/
structure RdI (N b6 b7 b10 : Nat) (w4 W wr : World) (pl i : Nat) (xa : Option Addr) : Prop where
  met : Blk wr b6 (metC (rds N pl ++ (rnd N pl).take i)) 48
  bus : Blk wr b10 (busC ((rnd N pl).take i)) 51
  at_ : Blk wr b7 [.int .i64 (pl : Int)] 3
  kept : Kept [] w4 wr
  lst : LsY 53 wr xa ((rnd N pl).map prN)
  oth : KeepsOthers W wr
  kpc : KpC [b6, b7] W wr
theorem rnd_len (n r : Nat) (hn : n ≤ 32) : (rnd n r).length ≤ 33 := by
  have h1 := rd_len n r (evN n / 2)
  have h2 := evN_le n hn
  unfold rnd
  omega
theorem rds_len (n r : Nat) (hn : n ≤ 32) : (rds n r).length ≤ r * 33 := by
  induction r with
  | zero => simp [rds]
  | succ r ih =>
    have h := rnd_len n r hn
    rw [rds, List.length_append]
    omega
theorem cnt_le (n r i k : Nat) (hn : n ≤ 32) (hr : r ≤ 33) : (codL (rds n r ++ (rnd n r).take i)).count k ≤ 2000 := by
  have h0 := List.count_le_length (a := k) (l := codL (rds n r ++ (rnd n r).take i))
  have h1 := rds_len n r hn
  have h2 := rnd_len n r hn
  have h3 : (codL (rds n r ++ (rnd n r).take i)).length = (rds n r).length + ((rnd n r).take i).length := by simp [codL]
  have h4 : ((rnd n r).take i).length ≤ (rnd n r).length := by rw [List.length_take]; exact Nat.min_le_right _ _
  omega
/-- One game of the round. -/
theorem RdI.step {N b6 b7 b10 : Nat} {w4 W wr : World} {pl i A B nq : Nat} {xa : Option Addr} (s : RdI N b6 b7 b10 w4 W wr pl i xa) (hN : N ≤ 32) (hAB : A < B) (hBN : B < N) (hg : w4.heap.size ≤ b6 ∧ b6 ≠ b7) (h10 : w4.heap.size ≤ b10 ∧ W.heap.size ≤ b10 ∧ b6 ≠ b10 ∧ b7 ≠ b10) (ht : (rnd N pl).take (i + 1) = (rnd N pl).take i ++ [(A, B)]) :
    RdI N b6 b7 b10 w4 W ((((wr.drewN nq).setCell ⟨b10, A, none⟩ (.bool true)).setCell ⟨b10, B, none⟩ (.bool true)).drew.setCell ⟨b6, A * 32 + B, none⟩ (.int .i64 (((codL (rds N pl ++ (rnd N pl).take i)).count (A * 32 + B) : Nat) + 1))) pl (i + 1) xa := by
  have hko : ∀ (a : Addr) (v : Value) (X : World), KeepsOthers W X → KeepsOthers W (X.setCell a v) := fun a v X h => h.trans (KeepsOthers.setCell X a v)
  have hkd : KeepsOthers W (wr.drewN nq) := s.oth.trans ⟨Nat.le_refl _, fun _ _ h _ => h⟩
  have h1 : Kept [b10] wr (((wr.drewN nq).setCell ⟨b10, A, none⟩ (.bool true)).setCell ⟨b10, B, none⟩ (.bool true)) := (((Kept.refl [b10] wr).drewN nq).setCell (p := ⟨b10, A, none⟩) (.inl (by simp)) _).setCell (p := ⟨b10, B, none⟩) (.inl (by simp)) _
  have h2 : Kept [b6, b10] wr ((((wr.drewN nq).setCell ⟨b10, A, none⟩ (.bool true)).setCell ⟨b10, B, none⟩ (.bool true)).drew.setCell ⟨b6, A * 32 + B, none⟩ (.int .i64 (((codL (rds N pl ++ (rnd N pl).take i)).count (A * 32 + B) : Nat) + 1))) := (((((Kept.refl [b6, b10] wr).drewN nq).setCell (p := ⟨b10, A, none⟩) (.inl (by simp)) _).setCell (p := ⟨b10, B, none⟩) (.inl (by simp)) _).drew).setCell (p := ⟨b6, A * 32 + B, none⟩) (.inl (by simp)) _
  refine ⟨?_, ?_, h2.blk s.at_ (by simp; omega), ?_, ?_, hko _ _ _ ((hko _ _ _ (hko _ _ _ hkd)).trans (KeepsOthers.drew _)), ?_⟩
  · rw [ht, ← List.append_assoc, ← met_push _ (A, B) (by simp only; omega)]
    exact (h1.blk s.met (by simp; omega)).drew.set _ _
  · rw [ht, ← bus_push _ (A, B) (by simp only; omega) (by simp only; omega)]
    exact (((s.bus.drewN nq).set _ _).set _ _).drew.set_ne (by simp only; omega) _
  · exact s.kept.trans h2 (fun _ h => by simp at h) (fun x hx => by simp at hx; right; omega)
  · refine s.lst.frame h2 (fun b hb xs hc => ?_)
    simp only [List.mem_cons, List.not_mem_nil, or_false] at hb
    rcases hb with rfl | rfl
    · exact absurd (hc.ty s.met) (by decide)
    · exact absurd (hc.ty s.bus) (by decide)
  · refine ⟨Nat.le_trans s.kpc.size h2.size, fun b o ho hc hn => ?_⟩
    have hlt := (Array.getElem?_eq_some_iff.1 ho).1
    have h3 := s.kpc.size
    simp only [List.mem_cons, List.not_mem_nil, or_false, not_or] at hn
    rw [h2.block b (by omega) (by simp; omega), s.kpc.same b o ho hc (by simp; omega)]
set_option maxRecDepth 100000 in
set_option maxHeartbeats 12000000 in
theorem law_rounds (p : Int) (w : World) :
    Calls Try.prog 5 #[.int .i64 p] w fun e w' => e = .returned (.bool true) ∧ Kept [] w w' := by
  obtain ⟨N, hN, hp1, hp2⟩ : ∃ N : Nat, N ≤ 32 ∧ max 0 (min p (max 0 32)) = (N : Int) ∧ (if 32 < (if p < 0 then 0 else p) then 32 else if p < 0 then 0 else p) = (N : Int) := ⟨(max 0 (min p 32)).toNat, by omega, by omega, by split <;> split at * <;> omega⟩
  have HP1 := hx hp1
  have HP2 := hx hp2
  have HN := hx hN
  obtain ⟨Z, hZ, hzm⟩ := zeroMet
  obtain ⟨Y, hY, hzb⟩ := zeroBus
  have HZ := hx hZ
  have HY := hx hY
  clear hp1 hp2 hN hZ hY
  refine (callsIn_wide (n := 6)).1 ?_
  refine callsIn_of_wp_marks Try.func5 rfl trivial ?_ rfl
  simp only [Try.ntmps5, List.size_toArray, List.length_cons, List.length_nil, Nat.reduceAdd, Nat.reduceSub, Array.replicate_succ, Array.replicate_zero, List.push_toArray, List.append_toArray, List.nil_append, List.cons_append]
  refine wpIn_wide.2 ?_
  go_wp2_with fail
  have B2 := hx (Blk.new w [.bool false] 4)
  have K0 := hx ((Kept.refl [] w).alloc (.cells #[.bool false] 4))
  generalize w.alloc (.cells #[.bool false] 4) = W0 at *
  refine (lawake_any _).mono ?_
  rintro e w1 ⟨rfl, rfl⟩
  go_wp2_with fail
  refine (rounds_any p N W0 HN.out HP1.out).mono ?_
  rintro e w1 ⟨rfl, rfl⟩
  have B3 := hx ((Blk.new W0 [.int .i64 N] 3).alloc (.cells #[.int .i64 (evN N)] 3))
  have B4 := hx (show Blk ((W0.alloc (.cells #[.int .i64 N] 3)).alloc (.cells #[.int .i64 (evN N)] 3)) (W0.heap.size + 1) [.int .i64 (evN N)] 3 by
    have h := Blk.new (W0.alloc (.cells #[.int .i64 N] 3)) [.int .i64 (evN N)] 3
    rw [World.size_alloc] at h
    exact h)
  have B21 := hx ((B2.out.alloc (.cells #[.int .i64 N] 3)).alloc (.cells #[.int .i64 (evN N)] 3))
  have K1 := hx ((K0.out.alloc (.cells #[.int .i64 N] 3)).alloc (.cells #[.int .i64 (evN N)] 3))
  have hbn := func_neR (W0.heap.size + 1) W0.heap.size
  go_upto_region 4 with fail
  generalize W0.heap.size + 1 = b4 at *
  generalize W0.heap.size = b3 at *
  generalize (W0.alloc (.cells #[.int .i64 N] 3)).alloc (.cells #[.int .i64 (evN N)] 3) = w1 at *
  clear B2 K0
  go_wp2_with fail
  refine (rrounds_any p N w1 HN.out HP2.out).mono ?_
  rintro e w2 ⟨a, cc, sl, rfl, hl1, hl2, hs, hcell, hk⟩
  clear hbn
  have HL := hx (And.intro hl1 hl2)
  have HS := hx (hs.kept ((Kept.refl [] w2).alloc (.cells #[.slice a (evN N - 1) cc] 45)))
  have HC := hx (fun j v (h : sl[j]? = some v) => show ∃ g off, a = some ⟨g, off, none⟩ ∧ (w2.alloc (.cells #[.slice a (evN N - 1) cc] 45)).cell? ⟨g, off + j, none⟩ = some v by
    obtain ⟨g, off, h1, h2⟩ := hcell j v h
    exact ⟨g, off, h1, kept_cell ((Kept.refl [] w2).alloc _) h2⟩)
  have B32 := hx ((hk.blk B3.out (by simp)).alloc (.cells #[.slice a (evN N - 1) cc] 45))
  have B42 := hx ((hk.blk B4.out (by simp)).alloc (.cells #[.slice a (evN N - 1) cc] 45))
  have B22 := hx ((hk.blk B21.out (by simp)).alloc (.cells #[.slice a (evN N - 1) cc] 45))
  have BW2 := hx (Blk.new w2 [.slice a (evN N - 1) cc] 45)
  have K2 := hx ((K1.out.trans0 hk).alloc (.cells #[.slice a (evN N - 1) cc] 45))
  clear hl1 hl2 hs hcell hk B3 B4 B21 K1
  go_upto_region 7 with fail
  generalize w2.heap.size = bw at *
  generalize w2.alloc (.cells #[.slice a (evN N - 1) cc] 45) = w3 at *
  go_cut [5] from 24 to 27 (fun s5 wx => s5 = .pointer (some ⟨w3.heap.size, 0, none⟩) ∧ wx = w3.alloc (.cells #[.int .i64 N] 3))
  case first =>
    go_wp2_with fail
    all_goals
      go_meet
      refine ⟨rfl, ?_⟩
      congr 4
      rw [← HP2.out]
      congr 1
      (repeat' split) <;> omega
  case rest =>
  obtain ⟨rfl, rfl⟩ := hcut
  have B5 := hx (Blk.new w3 [.int .i64 N] 3)
  have HS4 := hx (HS.out.kept ((Kept.refl [] w3).alloc (.cells #[.int .i64 N] 3)))
  have HC4 := hx (fun j v (h : sl[j]? = some v) => show ∃ g off, a = some ⟨g, off, none⟩ ∧ (w3.alloc (.cells #[.int .i64 N] 3)).cell? ⟨g, off + j, none⟩ = some v by
    obtain ⟨g, off, h1, h2⟩ := HC.out j v h
    exact ⟨g, off, h1, kept_cell ((Kept.refl [] w3).alloc _) h2⟩)
  have B34 := hx (B32.out.alloc (.cells #[.int .i64 N] 3))
  have B44 := hx (B42.out.alloc (.cells #[.int .i64 N] 3))
  have B24 := hx (B22.out.alloc (.cells #[.int .i64 N] 3))
  have BW4 := hx (BW2.out.alloc (.cells #[.int .i64 N] 3))
  have K4 := hx (K2.out.alloc (.cells #[.int .i64 N] 3))
  clear HS HC B32 B42 B22 BW2 K2 HP1 HP2
  go_upto_region 8 with fail
  generalize w3.heap.size = b5 at *
  generalize w3.alloc (.cells #[.int .i64 N] 3) = w4 at *
  have B6 := hx (show Blk ((w4.alloc (.cells Z 48)).alloc (.cells #[.int .i64 0] 3)) w4.heap.size (metC []) 48 by
    have h := (Blk.new' w4 Z 48).alloc (.cells #[.int .i64 0] 3)
    rw [HZ.out] at h
    exact h)
  have B7 := hx (show Blk ((w4.alloc (.cells Z 48)).alloc (.cells #[.int .i64 0] 3)) (w4.heap.size + 1) [.int .i64 0] 3 by
    have h := Blk.new (w4.alloc (.cells Z 48)) [.int .i64 0] 3
    rw [World.size_alloc] at h
    exact h)
  have K6 := hx (((Kept.refl [] w4).alloc (.cells Z 48)).alloc (.cells #[.int .i64 0] 3))
  have HSZ := hx (show w4.heap.size ≤ w4.heap.size ∧ w4.heap.size < w4.heap.size + 1 by omega)
  have HB34 := hx (And.intro B34.out.lt B44.out.lt)
  go_wp2_with fail
  clear hzm
  have HB34b := HB34.out
  generalize hb7 : w4.heap.size + 1 = b7 at *
  generalize hb6 : w4.heap.size = b6 at *
  have HG := hx (show w4.heap.size ≤ b6 ∧ w4.heap.size ≤ b7 ∧ b6 ≠ b7 ∧ b3 ≠ b6 ∧ b3 ≠ b7 ∧ b4 ≠ b6 ∧ b4 ≠ b7 from ⟨by omega, by omega, by omega, by omega, by omega, by omega, by omega⟩)
  clear hb6 hb7 HB34b HSZ HB34
  generalize (w4.alloc (.cells Z 48)).alloc (.cells #[.int .i64 0] 3) = w6 at *
  have B36 := hx (K6.out.blk B34.out (by simp))
  have B46 := hx (K6.out.blk B44.out (by simp))
  have HST := hx (rounds_stops 5 b3 b4 N [b6, b7] w6 B36.out B46.out HN.out (by have h := HG.out; simp; omega) (by have h := HG.out; simp; omega) (by omega))
  have HLT := hx (And.intro B6.out.lt (And.intro B7.out.lt K6.out.size))
  have HKK := hx (show ∃ KK, evN N - 1 = KK from ⟨_, rfl⟩)
  obtain ⟨KK, hKK⟩ := HKK.out
  rw [hKK] at HST HL ⊢
  replace HKK := hx hKK
  refine (wpIn_wide (n := 6)).1 ?_
  apply rangeG (F := Fence.wide) (n := 6) (gf := 24) (lb := #[.pointer (some ⟨b4, 0, none⟩), .pointer (some ⟨b3, 0, none⟩)]) (encs := encR) (G := GR N) (Kp := KpC [b6, b7]) (S := fun xs => xs.length = KK) (Sp := fun _ => True) (N := KK) rfl (by omega) rfl trivial (enters_of Try.func24 (by kernel_rfl) rfl) HST.out kpc_t (fun W l o o' _ h hc => kpc_b W l o o' h hc) (fun pre x W l o o' _ hl hc h => gr_put pre x W l o o' hl hc h) (fun _ => rfl)
    (fun pre W => Blk W b6 (metC (rds N pre.length)) 48 ∧ Blk W b7 [.int .i64 (pre.length : Int)] 3 ∧ Kept [] w4 W)
    (fun _ _ _ => False)
    (fun pre A C ⟨h1, h2, h3⟩ hb => ⟨h1.below hb HLT.out.1, h2.below hb HLT.out.2.1, h3.below hb HLT.out.2.2⟩)
    (fun _ _ _ _ h _ => h)
    ⟨B6.out, B7.out, K6.out⟩
  case hassign =>
    intro l x W K hK
    gi_wp2
    exact hK
  case hbody =>
    rintro l pre x W ⟨hb6, hb7, hk⟩ hlen hg
    obtain ⟨r, xa, xk, xc⟩ := x
    obtain ⟨hr, hxk, hxc, hxl⟩ := hg
    simp only at hr hxk hxc hxl
    subst hr
    obtain ⟨v, hv⟩ : ∃ v, sl[pre.length]? = some v := ⟨_, List.getElem?_eq_getElem (by have h := HL.out.1; omega)⟩
    obtain ⟨oa, ok, oc, rfl, hok, hoc, hol⟩ := HS4.out.at_ _ v hv
    obtain ⟨og, ooff, hoa, hocell⟩ := HC4.out _ _ hv
    subst hoa
    have HRD := hx (rnd_ok N pre.length HN.out (by rw [HKK.out]; exact hlen))
    have hke : xk = ok := by rw [hxk, hok]
    subst hke
    have h16 : xk ≤ 33 := by rw [hok]; have h1 := rd_len N pre.length (evN N / 2); have h2 := evN_le N HN.out; unfold rnd; omega
    have hpl : (((pre ++ [(⟨pre.length, xa, xk, xc⟩ : Rx)]).length : Nat) : Int) = (pre.length : Int) + 1 := by simp
    have hpl2 : (pre ++ [(⟨pre.length, xa, xk, xc⟩ : Rx)]).length = pre.length + 1 := by simp
    have HPL := hx (And.intro hpl hpl2)
    clear hpl hpl2 hv
    generalize hple : pre.length = pl at *
    have HXL := hx hxl
    have HXK := hx hxk
    have HXC := hx hxc
    have HOL := hx hol
    have HOC := hx hocell
    have HB := hx (And.intro hb6 (And.intro hb7 hk))
    have hlti : (pl : Int) < (KK : Int) := by omega
    have hnle : ¬ KK ≤ pl := by omega
    have hnld : decide (KK ≤ pl) = false := decide_eq_false hnle
    have hplb : (pl : Int) ≤ 33 := by have h1 := HKK.out; have h2 := evN_le N HN.out; omega
    have c7 := hb7.cell (i := 0) rfl
    have cw := (hk.blk BW4.out (by simp)).cell (i := 0) rfl
    have co := kept_cell hk hocell
    clear hb6 hb7 hk hxl hxk hxc hol hocell hok hoc hlen hple
    have HR0 := hx (show RdI N b6 b7 W.heap.size w4 W (W.alloc (.cells Y 51)) pl 0 xa from ⟨by simpa using HB.out.1.alloc _, by have h := Blk.new' W Y 51; rw [HY.out] at h; simpa using h, HB.out.2.1.alloc _, HB.out.2.2.alloc _, HXL.out.kept ((Kept.refl [] W).alloc _), KeepsOthers.alloc _ _, ⟨by simp, fun b o ho _ _ => Below.heap_alloc W _ b (Array.getElem?_eq_some_iff.1 ho).1⟩⟩)
    have HBT := hx (show w4.heap.size ≤ W.heap.size ∧ W.heap.size ≤ W.heap.size ∧ b6 ≠ W.heap.size ∧ b7 ≠ W.heap.size from ⟨HB.out.2.2.size, Nat.le_refl _, by have h := HB.out.1.lt; omega, by have h := HB.out.2.1.lt; omega⟩)
    gi_wp2
    obtain ⟨b10, hb10⟩ : ∃ b10, W.heap.size = b10 := ⟨_, rfl⟩
    have HBT2 : Hx (w4.heap.size ≤ b10 ∧ W.heap.size ≤ b10 ∧ b6 ≠ b10 ∧ b7 ≠ b10) := hx (by have h := HBT.out; omega)
    rw [hb10] at HR0 ⊢
    clear hb10 HBT
    have HBT := HBT2
    clear HBT2
    generalize W.alloc (.cells Y 51) = W1 at *
    gi_loopw [11] (fun cv wr => ∃ i : Nat, i ≤ xk ∧ cv = .int .i64 i ∧ RdI N b6 b7 b10 w4 W wr pl i xa) (fun cv _ => xk - (intOf cv).toNat)
    case atStart => exact ⟨0, by omega, rfl, HR0.out⟩
    case round =>
      clear HR0 c7 cw co hzb
      obtain ⟨i, hi, rfl, hri⟩ := hrel
      have HRI := hx hri
      clear hri
      by_cases hlt : i < xk
      · have hlti2 : (i : Int) < (xk : Int) := by omega
        have hil : i < (rnd N pl).length := by have h := HXK.out; omega
        obtain ⟨hp1, hp2⟩ := HRD.out.1 _ (List.getElem_mem hil)
        obtain ⟨hf1, hf2⟩ := both_free _ i hil HRD.out.2
        have hgd : ((rnd N pl).map prN).getD i (0, 0) = prN ((rnd N pl)[i]) := by rw [List.getD_eq_getElem?_getD, List.getElem?_map, List.getElem?_eq_getElem hil]; rfl
        have htk := take_push _ i hil
        obtain ⟨g, off, hxa, e1, e2⟩ := HRI.out.lst.1 i (by simpa using hil)
        obtain ⟨g', off', hoa, e3, e4⟩ := (HOL.out.kept HRI.out.kept).1 i (by simpa using hil)
        rw [hgd] at e1 e2 e3 e4
        subst hxa
        subst hoa
        obtain ⟨P, hP⟩ : ∃ P, (rnd N pl)[i] = P := ⟨_, rfl⟩
        rw [hP] at hp1 hp2 hf1 hf2 e1 e2 e3 e4 htk
        obtain ⟨A, B⟩ := P
        simp only [prN] at hp1 hp2 hf1 hf2 e1 e2 e3 e4
        have HTK := hx htk
        have hN32 : N ≤ 32 := HN.out
        have hb6 := HRI.out.met.cell (met_at _ (A * 32 + B) (by omega))
        have hbA := HRI.out.bus.cell (bus_at _ A (by omega))
        have hbB := HRI.out.bus.cell (bus_at _ B (by omega))
        rw [decide_eq_false hf1] at hbA
        rw [decide_eq_false hf2] at hbB
        have f6 := HRI.out.met.free
        have f10 := HRI.out.bus.free
        have c7 := HRI.out.at_.cell (i := 0) rfl
        have cw := (HRI.out.kept.blk BW4.out (by simp)).cell (i := 0) rfl
        have co := kept_cell HRI.out.kept HOC.out
        have c5 := (HRI.out.kept.blk B5.out (by simp)).cell (i := 0) rfl
        have hAB : (A : Int) < (B : Int) := by omega
        have hBN : (B : Int) < (N : Int) := by omega
        have hN32i : (N : Int) ≤ 32 := by omega
        clear hgd htk hP hf1 hf2 hp1 hp2 hil
        gi_wp2
        refine wpIn_region_quietR (by kernel_rfl) (by kernel_rfl) (by kernel_rfl) ?_
        repeat (quiet_step_in (fail))
        refine wpQuietIn_nil ?_
        intro _ hw'
        obtain ⟨nq, hw''⟩ := hw'
        subst hw''
        gi_wp2
        have HST2 := hx (RdI.step (A := A) (B := B) (nq := nq) HRI.out HN.out (by omega) (by omega) (by have h := HG.out; omega) HBT.out HTK.out)
        have h8 : Blk (((wr.drewN nq).setCell ⟨b10, A, none⟩ (.bool true)).setCell ⟨b10, B, none⟩ (.bool true)) b6 (metC (rds N pl ++ (rnd N pl).take i)) 48 := ((HRI.out.met.drewN nq).set_ne (a := ⟨b10, A, none⟩) (by have h := HBT.out; simp only; omega) (.bool true)).set_ne (a := ⟨b10, B, none⟩) (by have h := HBT.out; simp only; omega) (.bool true)
        have c8 := h8.cell (met_at _ (A * 32 + B) (by omega))
        have f8 := h8.free
        have hcb : (((codL (rds N pl ++ (rnd N pl).take i)).count (A * 32 + B) : Nat) : Int) ≤ 2000 := by have h := cnt_le N pl i (A * 32 + B) HN.out (by omega); omega
        generalize (codL (rds N pl ++ (rnd N pl).take i)).count (A * 32 + B) = ct at *
        generalize ((wr.drewN nq).setCell ⟨b10, A, none⟩ (.bool true)).setCell ⟨b10, B, none⟩ (.bool true) = w8 at *
        clear h8 HTK
        apply wpIn_one
        · gi_region
          all_goals exact ⟨rfl, rfl, rfl⟩
        · gi_wp2
          go_roundw
          case rel => exact ⟨i + 1, by omega, by go_num, HST2.out⟩
          case measure => simp [intOf] <;> omega
      · have hlti2 : ¬ (i : Int) < (xk : Int) := by omega
        obtain rfl : i = xk := by omega
        have c7 := HRI.out.at_.cell (i := 0) rfl
        have f7 := HRI.out.at_.free
        gi_wp2
        have hxe : (rnd N pl).take i = rnd N pl := by rw [HXK.out]; exact List.take_length
        have hrs : rds N (pl + 1) = rds N pl ++ rnd N pl := rfl
        refine ⟨HRI.out.oth.trans (KeepsOthers.setCell _ _ _), kpc_t HRI.out.kpc ⟨by simp [World.setCell], fun b o ho hc hn => Below.heap_setCell _ _ _ _ (by simp at hn; exact hn.2)⟩, ?_, ?_, ?_⟩
        · rw [HPL.out.2, hrs]
          have h := HRI.out.met
          rw [hxe] at h
          exact h.set_ne (a := ⟨b7, 0, none⟩) (by have h := HG.out; simp only; omega) _
        · rw [HPL.out.1]; exact HRI.out.at_.set 0 _
        · exact HRI.out.kept.setCell (p := ⟨b7, 0, none⟩) (.inr (by have h := HG.out; simp only; omega)) _
  case hdone =>
    rintro D xs W hD hxs ⟨hb6, hb7, hk⟩ hK
    rw [hxs] at hb6 hb7
    have HM := hx (show Blk W b6 (metC (rds N (evN N - 1))) 48 by rw [HKK.out]; exact hb6)
    have c7 := hb7.cell (i := 0) rfl
    have c5 := (hk.blk B5.out (by simp)).cell (i := 0) rfl
    have cw := (hk.blk BW4.out (by simp)).cell (i := 0) rfl
    have f2 := (hk.blk B24.out (by simp)).free
    have c2 := (hk.blk B24.out (by simp)).cell (i := 0) rfl
    have HB2 := hx (hk.blk B24.out (by simp))
    have HKW := hx (K4.out.trans0 hk)
    have HKD := hx hK
    have HNE := hx (show w.heap.size ≠ D ∧ w.heap.size ≤ D by have h1 := HLT.out; have h2 := B24.out.lt; omega)
    have hN32 : (N : Int) ≤ 32 := by have h := HN.out; omega
    clear hb6 hb7 hk hK hD hxs
    go_wp2_with fail
    go_loopw [14, 15] (fun av bv wr => ∃ x : Nat, x ≤ N ∧ av = .int .i64 x ∧ wr = W) (fun av _ _ => N - (intOf av).toNat)
    case atStart => exact ⟨0, by omega, rfl, rfl⟩
    case round =>
      obtain ⟨x, hx1, rfl, rfl⟩ := hrel
      by_cases hxl : x < N
      · have hxi : (x : Int) < (N : Int) := by omega
        go_wp2_with fail
        go_loopw [15] (fun bv wr' => ∃ y : Nat, x < y ∧ y ≤ N ∧ bv = .int .i64 y ∧ wr' = wr) (fun bv _ => N - (intOf bv).toNat)
        case atStart => exact ⟨x + 1, by omega, by omega, by go_num, rfl⟩
        case round =>
          obtain ⟨y, hy1, hy2, rfl, rfl⟩ := hrel
          by_cases hyl : y < N
          · have hyi : (y : Int) < (N : Int) := by omega
            have c6 := HM.out.cell (met_at _ (x * 32 + y) (by have h := HN.out; omega))
            rw [met_ok N HN.out x y hy1 hyl] at c6
            go_wp2_with fail
            go_roundw
            case rel => exact ⟨y + 1, by omega, by omega, by go_num, trivial⟩
            case measure => simp [intOf] <;> omega
          · have hyi : ¬ (y : Int) < (N : Int) := by omega
            go_wp2_with fail
            go_roundw
            case rel => exact ⟨x + 1, by omega, by go_num, trivial⟩
            case measure => simp [intOf] <;> omega
      · have hxi : ¬ (x : Int) < (N : Int) := by omega
        go_wp2_with fail
        have HB3 := hx (HB2.out.set 0 (.bool true))
        have HK3 := hx (HKW.out.setCell (p := ⟨w.heap.size, 0, none⟩) (.inr (Nat.le_refl _)) (.bool true))
        have HKE := (KeepsOthers.setCell wr ⟨w.heap.size, 0, none⟩ (.bool true)).same D _ HKD.out rfl
        refine ⟨by simp, .inl ⟨_, _, rfl, run_takeDeferred HKE, ?_⟩⟩
        refine ⟨_, res_cell1 rfl _ w.heap.size _ rfl (Blk.cell (i := 0) (show Blk _ w.heap.size [.bool true] 4 from (World.putObj_heap_other HNE.out.1).trans HB3.out) rfl) Try.underlying4 rfl, rfl, ?_⟩
        exact HK3.out.below (below_putG _ D _ _ (Nat.le_refl D) HKE) HNE.out.2
  case hstop =>
    rintro D cd pre W _ _ hx _
    exact hx.elim
end Go.Proofs.Ytgbikakhnmjllaa
