/- nack: the law's comparison, and that of lists of numbers. -/
import Derived.Test.YteobkcmfpmolmaaNkW
namespace Go.Proofs.Yteobkcmfpmolmaa
open Go Go.RowKit Go.Shelf
attribute [local go_sem] Oper.semAt_some
theorem func_neN (b : Nat) (w : World) : (binOp .eql 75 (.func (.func 44) #[] #[.pointer (some ⟨b, 0, none⟩)]) .nilFunc).run Try.prog w = .ok (.bool false) w := by kernel_rfl
theorem zeroBool (w : World) : (zeroValue 4).run Try.prog w = .ok (.bool false) w := by kernel_rfl
theorem res_cell1 {P : Program} {w : World} {fn : Func} {p : Tmp} {ty : TypeId} (h : fn.results = #[.cell p ty]) (tmps : Array Value) (g : Nat) (v : Value) (hp : tmps.getD p undef = .pointer (some ⟨g, 0, none⟩)) (hc : w.cell? ⟨g, 0, none⟩ = some v) {d : TypeDesc} (hu : P.underlying ty = some d) (hd : d.isRow = false) : (results fn tmps).run P w = .ok v w := by
  have hp' : tmps[p]?.getD undef = .pointer (some ⟨g, 0, none⟩) := by simpa using hp
  have hag : (isAgg ty).run P w = .ok false w := by
    unfold isAgg
    rw [Sem.run_bind, run_underlying hu w]
    cases d <;> simp_all
  simp [results, h, hp', asAddr, loadVar, Sem.run_bind, hag, run_load, hc]
set_option maxHeartbeats 1600000 in
theorem numbers_any (a b : Option Addr) (n c e : Nat) (l : List Int) (w : World) (ha : Ik w a l) (hb : Ik w b l) (hn : l.length = n) (h100 : n ≤ 100000) :
    Calls Try.prog 20 #[.slice a n c, .slice b n e] w fun e w' => e = .returned (.bool true) ∧ Kept [] w w' := by
  have HA := hx ha
  have HB := hx hb
  have HN := hx hn
  clear ha hb hn
  go_enter Try.func20, Try.ntmps20
  go_wp2_with fail
  go_loopw [5] (fun iv wr => ∃ (i : Nat), i ≤ n ∧ iv = .int .i64 i ∧ Kept [] w wr) (fun iv _ => n - (intOf iv).toNat)
  case atStart => exact ⟨0, by omega, rfl, Kept.refl _ _⟩
  case round =>
    obtain ⟨i, hi, rfl, hk⟩ := hrel
    have HK := hx hk
    by_cases hlt : i < n
    · have hli : (i : Int) < (n : Int) := by omega
      have hil : i < l.length := by have := HN.out; omega
      obtain ⟨g, off, rfl, e1⟩ := (HA.out.kept hk) i hil
      obtain ⟨g2, off2, rfl, e2⟩ := (HB.out.kept hk) i hil
      clear hk
      go_upto_region 6 with fail
      go_quiet (fail)
      have HKd := hx (HK.out.drewN nq)
      go_wp2
      go_roundw
      case rel => exact ⟨i + 1, by omega, by go_num, HKd.out⟩
      case measure => simp [intOf] <;> omega
    · obtain rfl : i = n := by omega
      clear hk
      go_wp2
      go_ret
      exact ⟨rfl, HK.out⟩
variable {w0 w w1 : World} {p q mb n : Nat} {v : Value} {room now no asked full : Int} {h s : List En} {f : Int → Int} {N : Nat}
set_option maxRecDepth 100000 in
set_option maxHeartbeats 12000000 in
theorem nsame_any (a : Option Addr) (ln c : Nat) (d : Pn w0 w p q mb n v room now no asked full h s f N) (hN : N ≤ 1000000) (hL : L3 w 56 a (s.map (itN now f))) (hn : s.length = ln) :
    Calls Try.prog 21 #[.pointer (some ⟨p, 0, none⟩), .agg #[.int .i64 room, .int .i64 asked, .int .i64 full, .slice a ln c]] w fun e w' => e = .returned (.bool true) ∧ Kept [] w w' := by
  have HD := hx d
  have HL := hx hL
  have HN := hx hn
  have hhl : h.length = ln := by rw [← d.tp.len, hn]
  have HLQ := hx (fun (W : World) (hk : Kept [] w W) (m : Nat) => show Calls Try.prog 12 #[.pointer (some ⟨p, 0, none⟩)] (W.drewN m) fun e w' => e = .returned (.int .i64 ((ln : Nat) : Int)) ∧ w' = W.drewN m by
    have h1 := nlen_any (W.drewN m) (d.nk.kept (hk.drewN m))
    rw [hhl] at h1
    exact h1.mono fun e w' ⟨h2, h3⟩ => ⟨h2, h3.symm⟩)
  have HAQ := hx (fun (W : World) (hk : Kept [] w W) (m : Nat) => show Calls Try.prog 34 #[.pointer (some ⟨p, 0, none⟩)] (W.drewN m) fun e w' => e = .returned (.int .i64 asked) ∧ w' = W.drewN m from
    (nasked_any (W.drewN m) (d.nk.kept (hk.drewN m))).mono fun e w' ⟨h2, h3⟩ => ⟨h2, h3.symm⟩)
  have HFQ := hx (fun (W : World) (hk : Kept [] w W) (m : Nat) => show Calls Try.prog 35 #[.pointer (some ⟨p, 0, none⟩)] (W.drewN m) fun e w' => e = .returned (.int .i64 full) ∧ w' = W.drewN m from
    (nfull_any (W.drewN m) (d.nk.kept (hk.drewN m))).mono fun e w' ⟨h2, h3⟩ => ⟨h2, h3.symm⟩)
  have HLP := hx (show p < w.heap.size ∧ q < w.heap.size ∧ mb < w.heap.size from ⟨d.nk.hp.lt, d.nk.ts.hq.lt, d.nk.mp.lt⟩)
  have HS := hx (show h.length ≤ 64 ∧ ln ≤ 64 by have h1 := (d.small hN).1; omega)
  clear d hL hn hhl hN
  refine (callsIn_wide (n := 6)).1 ?_
  refine callsIn_of_wp_marks Try.func21 rfl trivial ?_ rfl
  simp only [Try.ntmps21, List.size_toArray, List.length_cons, List.length_nil, Nat.reduceAdd, Nat.reduceSub, Array.replicate_succ, Array.replicate_zero, List.push_toArray, List.append_toArray, List.nil_append, List.cons_append]
  refine wpIn_wide.2 ?_
  have hzb := zeroBool
  go_upto_region 1 with fail
  have B3 := hx ((Blk.new w (ls4 room asked full (.slice a ln c)) 27).alloc (.cells #[.bool false] 4))
  have B4 := hx (show Blk ((w.alloc (.cells #[.int .i64 room, .int .i64 asked, .int .i64 full, .slice a ln c] 27)).alloc (.cells #[.bool false] 4)) (w.heap.size + 1) [.bool false] 4 by
    have h := Blk.new (w.alloc (.cells #[.int .i64 room, .int .i64 asked, .int .i64 full, .slice a ln c] 27)) [.bool false] 4
    rw [World.size_alloc] at h
    exact h)
  have K0 := hx (((Kept.refl [] w).alloc (.cells #[.int .i64 room, .int .i64 asked, .int .i64 full, .slice a ln c] 27)).alloc (.cells #[.bool false] 4))
  clear hzb
  have B3' := hx (show Blk ((w.alloc (.cells #[.int .i64 room, .int .i64 asked, .int .i64 full, .slice a ln c] 27)).alloc (.cells #[.bool false] 4)) w.heap.size (ls4 room asked full (.slice a ln c)) 27 from B3.out)
  clear B3
  generalize (w.alloc (.cells #[.int .i64 room, .int .i64 asked, .int .i64 full, .slice a ln c] 27)).alloc (.cells #[.bool false] 4) = W0 at *
  have c1 := B3'.out.cell (i := 1) rfl
  have c2 := B3'.out.cell (i := 2) rfl
  have c3 := B3'.out.cell (i := 3) rfl
  go_quiet (first | (go_at_call 12; refine Calls.quiet_of_same (HLQ.out _ K0.out _)) | (go_at_call 34; refine Calls.quiet_of_same (HAQ.out _ K0.out _)) | (go_at_call 35; refine Calls.quiet_of_same (HFQ.out _ K0.out _)))
  have B31 := hx (B3'.out.drewN nq)
  have B41 := hx (B4.out.drewN nq)
  have K1 := hx (K0.out.drewN nq)
  clear c1 c2 c3 B3' B4 K0 HLQ HAQ HFQ
  generalize W0.drewN nq = wc at *
  have hbn := func_neN wc.heap.size
  have hzi := zeroInt
  go_wp2_with fail
  refine (nall_any p wc).mono ?_
  rintro e w5 ⟨rfl, rfl⟩
  have BQ := hx (Blk.new wc [.pointer (some ⟨p, 0, none⟩)] 24)
  have B32 := hx (B31.out.alloc (.cells #[.pointer (some ⟨p, 0, none⟩)] 24))
  have B42 := hx (B41.out.alloc (.cells #[.pointer (some ⟨p, 0, none⟩)] 24))
  have K2 := hx (K1.out.alloc (.cells #[.pointer (some ⟨p, 0, none⟩)] 24))
  go_upto_region 6 with fail
  clear hbn B31 B41 K1
  generalize wc.heap.size = bq at *
  generalize wc.alloc (.cells #[.pointer (some ⟨p, 0, none⟩)] 24) = w5 at *
  have B9 := hx (Blk.new w5 [.int .i64 0] 3)
  have B33 := hx (B32.out.alloc (.cells #[.int .i64 0] 3))
  have B43 := hx (B42.out.alloc (.cells #[.int .i64 0] 3))
  have BQ3 := hx (BQ.out.alloc (.cells #[.int .i64 0] 3))
  have K3 := hx (K2.out.alloc (.cells #[.int .i64 0] 3))
  have HNE := hx (And.intro B42.out.lt (And.intro K2.out.size BQ.out.lt))
  go_wp2_with fail
  clear hzi B32 B42 K2 BQ
  generalize w5.heap.size = b9 at *
  generalize w5.alloc (.cells #[.int .i64 0] 3) = w6 at *
  have HST := hx (nall_stops bq p q mb n v room now no asked full h s f (fun b _ => b = b9) w6 BQ3.out (HD.out.nk.kept K3.out) HD.out.tp HD.out.wf (by have h1 := HNE.out; omega) (by have h1 := HNE.out; have h2 := HLP.out; omega) (by have h1 := HNE.out; have h2 := HLP.out; omega) (by intro b hb; have := B9.out.lt; omega) (by intro b hb; have := B9.out.lt; omega) (by intro b hb; have := B9.out.lt; omega) (by have := HS.out; omega))
  have HLT := hx (And.intro B9.out.lt (And.intro B33.out.lt (And.intro B43.out.lt K3.out.size)))
  refine (wpIn_wide (n := 6)).1 ?_
  apply rangeZ (F := Fence.wide) (n := 6) (gf := 44) (lb := #[.pointer (some ⟨bq, 0, none⟩)]) (encs := encN f) (Kp := KpM (fun b _ => b = b9) mb) (S := fun xs => xs = s) (Sp := fun pre => pre <+: s) (N := s.length) rfl (by omega) rfl trivial (enters_of Try.func44 (by kernel_rfl) rfl) HST.out kpm_t (fun W o o' h hc => kpm_b W o o' h hc (by have h1 := HLP.out; have h2 := HLT.out; omega)) (fun _ => rfl)
      (fun pre W => Blk W b9 [.int .i64 (pre.length : Int)] 3 ∧ Blk W w.heap.size (ls4 room asked full (.slice a ln c)) 27 ∧ Blk W (w.heap.size + 1) [.bool false] 4 ∧ Kept [] w W)
      (fun _ _ _ => False)
      ⟨fun A C ⟨h2, h3, h4, h5⟩ hb => ⟨h2.below hb HLT.out.1, h3.below hb HLT.out.2.1, h4.below hb HLT.out.2.2.1, h5.below hb HLT.out.2.2.2⟩, fun pre A C ⟨h2, h3, h4, h5⟩ hb => ⟨hb.blk h2, hb.blk h3, hb.blk h4, hb.kept h5 HLT.out.2.2.2⟩⟩
      (fun _ _ _ _ h _ => h)
      ⟨B9.out, B33.out, B43.out, K3.out⟩
  case hassign =>
    intro l x W K hK
    gi_wp2
    exact hK
  case hbody =>
    rintro l pre x W ⟨hb9, hb3, hb4, hk⟩ hlen hsp
    have hlm : pre.length < (s.map (itN now f)).length := by simpa using hlen
    obtain ⟨g, off, rfl, e1, e2, e3⟩ := (HL.out.kept hk).cell pre.length hlm
    have hx0 : (s.map (itN now f)).getD pre.length it0 = itN now f x := by
      obtain ⟨t, ht⟩ := hsp
      rw [← ht]
      simp [List.getD]
    rw [hx0] at e1 e2 e3
    simp only [itN] at e1 e2 e3
    have c9 := hb9.cell (i := 0) rfl
    have f9 := hb9.free
    have c33 := hb3.cell (i := 3) rfl
    have hkn : (pre.length : Int) < (ln : Int) := by have h1 := HN.out; omega
    have hkd : decide (ln ≤ pre.length) = false := decide_eq_false (by have h1 := HN.out; omega)
    have hk0 : (0 : Int) ≤ (pre.length : Int) := by omega
    have HB := hx (And.intro hb9 (And.intro hb3 (And.intro hb4 hk)))
    have HLN := hx (show ((pre ++ [x]).length : Int) = (pre.length : Int) + 1 by simp)
    have hls : ln ≤ 64 := HS.out.2
    clear hb9 hb3 hb4 hk hlen hsp hlm hx0
    gi_wp2
    have hset := (Kept.refl [b9] W).setCell (p := ⟨b9, 0, none⟩) (.inl (by simp)) (.int .i64 ((pre.length : Int) + 1))
    refine ⟨(KeepsOthers.setCell _ _ _).from _, ⟨KpP.of hset (by simp), Below.heap_setCell _ _ _ _ (by have h1 := HLP.out; have h2 := HNE.out; simp; omega)⟩, ?_, ?_, ?_, ?_⟩
    · rw [HLN.out]; exact HB.out.1.set 0 _
    · exact HB.out.2.1.set_ne (a := ⟨b9, 0, none⟩) (by have h1 := HNE.out; simp; omega) _
    · exact HB.out.2.2.1.set_ne (a := ⟨b9, 0, none⟩) (by have h1 := HNE.out; simp; omega) _
    · exact HB.out.2.2.2.setCell (.inr (by have h1 := HNE.out; simp; omega)) _
  case hdone =>
    rintro D xs W hD rfl ⟨hb9, hb3, hb4, hk⟩ hK
    have hml : ((xs.length : Nat) : Int) = (ln : Int) := by have h1 := HN.out; omega
    rw [hml] at hb9
    have c9 := hb9.cell (i := 0) rfl
    have f4 := hb4.free
    have c4 := hb4.cell (i := 0) rfl
    have c33 := hb3.cell (i := 3) rfl
    have HB := hx (hb4.set 0 (.bool true))
    have HKK := hx (hk.setCell (p := ⟨w.heap.size + 1, 0, none⟩) (.inr (by simp)) (.bool true))
    have HKD := hx hK
    have HDD := hx hD
    clear hml hb9 hb3 hb4 hk hK hD
    go_wp2
    have HK2 := (KeepsOthers.setCell W ⟨w.heap.size + 1, 0, none⟩ (.bool true)).same D _ HKD.out rfl
    refine ⟨by simp, .inl ⟨_, _, rfl, run_takeDeferred HK2, ?_⟩⟩
    have hkn := keptN_put (B := D) (W.setCell ⟨w.heap.size + 1, 0, none⟩ (.bool true)) D _ (.deferred none) (Nat.le_refl _) HK2 rfl
    refine ⟨_, res_cell1 rfl _ (w.heap.size + 1) _ rfl ((hkn.blk HB.out).cell (i := 0) rfl) Try.underlying4 rfl, rfl, ?_⟩
    exact hkn.kept HKK.out (by have h1 := HDD.out; have h2 := HLT.out.2.2.2; omega)
  case hstop =>
    rintro D cd pre W _ hp hF _
    exact hF.elim
end Go.Proofs.Yteobkcmfpmolmaa
