/- nack: the calls of a script at both lists. -/
import Derived.Test.YteobkcmfpmolmaaNkY
namespace Go.Proofs.Yteobkcmfpmolmaa
open Go Go.RowKit Go.Shelf
/-- The law's two blocks. -/
structure Pb (w W : World) (room asked full : Int) (v : Value) : Prop where
  b0 : Blk W w.heap.size (ls4 0 0 0 (.slice none 0 0)) 27
  b1 : Blk W (w.heap.size + 1) (ls4 room asked full v) 27
variable {w W W2 : World} {p q mb n : Nat} {v v' u : Value} {room now no asked full : Int} {h s : List En} {f : Int → Int} {N : Nat}
theorem Pb.kept (b : Pb w W room asked full u) (hk : Kept [] W W2) : Pb w W2 room asked full u := ⟨hk.blk b.b0 (by simp), hk.blk b.b1 (by simp)⟩
theorem Pb.size (b : Pb w W room asked full u) : w.heap.size + 2 ≤ W.heap.size := b.b1.lt
theorem Pb.nk (b : Pb w W room asked full u) {asked' full' now' no' : Int} {h' : List En} {f' : Int → Int} {room' : Int} (d : Nk W p q mb n v room' now' no' asked' full' h' f') (hk : KeptK W W2 p q mb v v') : Pb w W2 room asked full u :=
  ⟨blk_nk d hk b.b0 (by decide) (by decide) (by decide), blk_nk d hk b.b1 (by decide) (by decide) (by decide)⟩
/-- The program's list stays, when the law's own blocks of lists are written. -/
theorem Pn.put {w0 : World} (d : Pn w0 W p q mb n v room now no asked full h s f N) {b : Nat} {xs : List Value} {T : TypeId} (hb : Blk W b xs T) (h0 : w0.heap.size ≤ b) (hk : Kept [b] W W2) (h1 : nackT ≠ T) (h2 : 81 ≠ T) (h3 : 78 ≠ T) : Pn w0 W2 p q mb n v room now no asked full h s f N := by
  have hn : b ∉ (p :: q :: mb :: v.ownBlock.toList) := fun hm => nk_noT d.nk h1 h2 h3 b hm xs hb
  simp only [List.mem_cons, Option.mem_toList, not_or] at hn
  refine ⟨d.k.trans hk (fun _ h => h) (fun x hx => by simp at hx; right; omega), d.hp, d.hq, d.hm, d.hv, ⟨hk.blk d.nk.hp (by simp; exact Ne.symm hn.1), ⟨hk.blk d.nk.ts.hq (by simp; exact Ne.symm hn.2.1), own_frame d.nk.ts.own hk (fun g hg hm => by simp at hm; subst hm; exact hn.2.2.2 hg), d.nk.ts.ne⟩, d.nk.mp.kept hk (by simp; exact Ne.symm hn.2.2.1), d.nk.pq, d.nk.pm, d.nk.qm, d.nk.vp, d.nk.vm⟩, d.tp, d.hr, d.r64, d.wf, d.tr, d.a0, d.bd⟩
theorem Pn.base {w0 w1 : World} (d : Pn W w1 p q mb n v room now no asked full h s f N) (hk : Kept [] w0 W) : Pn w0 w1 p q mb n v room now no asked full h s f N :=
  ⟨hk.trans0 d.k, Nat.le_trans hk.size d.hp, Nat.le_trans hk.size d.hq, Nat.le_trans hk.size d.hm, fun g hg => Nat.le_trans hk.size (d.hv g hg), d.nk, d.tp, d.hr, d.r64, d.wf, d.tr, d.a0, d.bd⟩
theorem Pb.new (w : World) (room : Int) : Pb w ((w.alloc (.cells #[.int .i64 0, .int .i64 0, .int .i64 0, .slice none 0 0] 27)).alloc (.cells #[.int .i64 room, .int .i64 0, .int .i64 0, .slice none 0 0] 27)) room 0 0 (.slice none 0 0) := by
  refine ⟨(Blk.new w (ls4 0 0 0 (.slice none 0 0)) _).alloc _, ?_⟩
  have h := Blk.new (w.alloc (.cells #[.int .i64 0, .int .i64 0, .int .i64 0, .slice none 0 0] 27)) (ls4 room 0 0 (.slice none 0 0)) 27
  rw [World.size_alloc] at h
  exact h
theorem tnew_no (room : Int) (w : World) (h1 : room < 1) :
    Calls Try.prog 28 #[.int .i64 room] w fun e w' => e = .returned (.tuple #[.pointer none, .int .i64 1]) ∧ w = w' := by
  go_enter Try.func28, Try.ntmps28
  go_wp2
  go_ret2
  exact ⟨rfl, rfl⟩
theorem nnew_no (room : Int) (w : World) (h1 : room < 1 ∨ 64 < room) :
    Calls Try.prog 14 #[.int .i64 room] w fun e w' => e = .returned (.tuple #[.pointer none, .int .i64 1]) ∧ w = w' := by
  by_cases h : room < 1
  · have HN := hx (tnew_no room w h)
    have hg : ¬ 64 < room := by omega
    clear h1 h
    go_enter Try.func14, Try.ntmps14
    go_wp2_with (go_at_call 28; refine HN.out.mono ?_; rintro e w1 ⟨rfl, rfl⟩)
    go_ret2
    exact ⟨rfl, rfl⟩
  · have h2 : 64 < room := by omega
    clear h1 h
    go_enter Try.func14, Try.ntmps14
    go_wp2
    go_ret2
    exact ⟨rfl, rfl⟩
theorem ret_tct {P : Program} {w : World} {fn : Func} {p q r : Tmp} {ty : TypeId} (h : fn.results = #[.tmp q, .cell p ty, .tmp r]) (tmps : Array Value) (g : Nat) (T : TypeId) (xs : List Value) (u v : Value) (d : TypeDesc)
    (hp : tmps.getD p undef = .pointer (some ⟨g, 0, none⟩)) (hq : tmps.getD q undef = u) (hr : tmps.getD r undef = v) (hb : Blk w g xs T)
    (hu : P.underlying ty = some d) (hd : (match d with | .struct _ | .array _ _ => true | _ => false) = true) (hi : (P.info? ty).map (·.size) = some xs.length) :
    (results fn tmps).run P w = .ok (.tuple #[u, .agg xs.toArray, v]) w := by
  have hp' : tmps[p]?.getD undef = .pointer (some ⟨g, 0, none⟩) := by simpa using hp
  have hq' : tmps[q]?.getD undef = u := by simpa using hq
  have hr' : tmps[r]?.getD undef = v := by simpa using hr
  simp [results, h, hp', hq', hr', asAddr, run_loadVar_row w g T ty xs.toArray (0, 0) d hb hu hd (by simpa using hi)]
/-- Both lists behind a script. -/
structure Both (w W : World) (p q mb n : Nat) (v : Value) (room now no asked full : Int) (h s : List En) (f : Int → Int) (N : Nat) (b : Option Addr) (ln c : Nat) : Prop where
  pn : Pn w W p q mb n v room now no asked full h s f N
  ls : L3 W 56 b (s.map (itN now f))
  hn : s.length = ln
  hc : ln ≤ c
/-- What the script leaves. -/
def PlN (w : World) (room : Int) (e : Ending) (w' : World) : Prop :=
  (e = .returned (.tuple #[.pointer none, .agg #[.int .i64 room, .int .i64 0, .int .i64 0, .slice none 0 0], .bool true]) ∧ Kept [] w w') ∨
  (1 ≤ room ∧ room ≤ 64 ∧ ∃ p q mb n v now no asked full h s f b ln c, e = .returned (.tuple #[.pointer (some ⟨p, 0, none⟩), .agg #[.int .i64 room, .int .i64 asked, .int .i64 full, .slice b ln c], .bool true]) ∧ Both w w' p q mb n v room now no asked full h s f 240000 b ln c)
set_option maxRecDepth 100000 in
set_option maxHeartbeats 25600000 in
theorem nplayed_any (room : Int) (a : Option Addr) (len cap : Nat) (w : World) (hA : Opn w a len cap) :
    Calls Try.prog 7 #[.int .i64 room, .slice a len cap] w (PlN w room) := by
  generalize hPP : PlN w room = PP
  have HPP := hx hPP
  have HA := hx hA
  have hz := zeroRList
  have HB := hx (Pb.new w room)
  have HKW := hx (((Kept.refl [] w).alloc (.cells #[.int .i64 0, .int .i64 0, .int .i64 0, .slice none 0 0] 27)).alloc (.cells #[.int .i64 room, .int .i64 0, .int .i64 0, .slice none 0 0] 27))
  clear hA hPP
  go_enter Try.func7, Try.ntmps7
  go_upto_region 2 with fail
  generalize (w.alloc (.cells #[.int .i64 0, .int .i64 0, .int .i64 0, .slice none 0 0] 27)).alloc (.cells #[.int .i64 room, .int .i64 0, .int .i64 0, .slice none 0 0] 27) = W at *
  clear hz
  by_cases g1 : room < 1
  · go_wp2_with fail
    refine (nnew_no room W (.inl g1)).mono ?_
    rintro e w1 ⟨rfl, rfl⟩
    go_upto_region 4 with fail
    have cs0 := HB.out.b1.cell (i := 0) (v := .int .i64 room) rfl
    have cs1 := HB.out.b1.cell (i := 1) (v := .int .i64 0) rfl
    have cs2 := HB.out.b1.cell (i := 2) (v := .int .i64 0) rfl
    have cs3 := HB.out.b1.cell (i := 3) (v := .slice none 0 0) rfl
    have ct0 := HB.out.b0.cell (i := 0) rfl
    have ct1 := HB.out.b0.cell (i := 1) rfl
    have ct2 := HB.out.b0.cell (i := 2) rfl
    have ct3 := HB.out.b0.cell (i := 3) rfl
    have hf := HB.out.b0.free
    have BF := hx (show Blk _ (w.heap.size) (ls4 room 0 0 (.slice none 0 0)) 27 from ((((HB.out.b0.set 0 (.int .i64 room)).set 1 (.int .i64 0)).set 2 (.int .i64 0)).set 3 (.slice none 0 0)).drew)
    have KW := (((((Kept.refl [w.heap.size] W).setCell (p := ⟨w.heap.size, 0, none⟩) (.inl (by simp)) (.int .i64 room)).setCell (p := ⟨w.heap.size, 1, none⟩) (.inl (by simp)) (.int .i64 0)).setCell (p := ⟨w.heap.size, 2, none⟩) (.inl (by simp)) (.int .i64 0)).setCell (p := ⟨w.heap.size, 3, none⟩) (.inl (by simp)) (.slice none 0 0)).drew
    have KF := hx (HKW.out.trans KW (fun _ h => h) (fun x h => by simp at h; right; omega))
    clear KW
    go_region
    go_wp2_with fail
    refine bodyPost_ret (ret_tct rfl _ w.heap.size _ _ _ _ _ rfl rfl rfl BF.out Try.underlying27 rfl infoList) rfl ?_
    rw [← HPP.out]
    exact .inl ⟨rfl, KF.out⟩
  by_cases g2 : 64 < room
  · go_wp2_with fail
    refine (nnew_no room W (.inr g2)).mono ?_
    rintro e w1 ⟨rfl, rfl⟩
    go_upto_region 4 with fail
    have cs0 := HB.out.b1.cell (i := 0) (v := .int .i64 room) rfl
    have cs1 := HB.out.b1.cell (i := 1) (v := .int .i64 0) rfl
    have cs2 := HB.out.b1.cell (i := 2) (v := .int .i64 0) rfl
    have cs3 := HB.out.b1.cell (i := 3) (v := .slice none 0 0) rfl
    have ct0 := HB.out.b0.cell (i := 0) rfl
    have ct1 := HB.out.b0.cell (i := 1) rfl
    have ct2 := HB.out.b0.cell (i := 2) rfl
    have ct3 := HB.out.b0.cell (i := 3) rfl
    have hf := HB.out.b0.free
    have BF := hx (show Blk _ (w.heap.size) (ls4 room 0 0 (.slice none 0 0)) 27 from ((((HB.out.b0.set 0 (.int .i64 room)).set 1 (.int .i64 0)).set 2 (.int .i64 0)).set 3 (.slice none 0 0)).drew)
    have KW := (((((Kept.refl [w.heap.size] W).setCell (p := ⟨w.heap.size, 0, none⟩) (.inl (by simp)) (.int .i64 room)).setCell (p := ⟨w.heap.size, 1, none⟩) (.inl (by simp)) (.int .i64 0)).setCell (p := ⟨w.heap.size, 2, none⟩) (.inl (by simp)) (.int .i64 0)).setCell (p := ⟨w.heap.size, 3, none⟩) (.inl (by simp)) (.slice none 0 0)).drew
    have KF := hx (HKW.out.trans KW (fun _ h => h) (fun x h => by simp at h; right; omega))
    clear KW
    go_region
    go_wp2_with fail
    refine bodyPost_ret (ret_tct rfl _ w.heap.size _ _ _ _ _ rfl rfl rfl BF.out Try.underlying27 rfl infoList) rfl ?_
    rw [← HPP.out]
    exact .inl ⟨rfl, KF.out⟩
  have HG := hx (show 1 ≤ room ∧ room ≤ 64 by omega)
  have gd1 : decide (room < 1) = false := decide_eq_false g1
  have gd2 : decide (64 < room) = false := decide_eq_false g2
  go_wp2_with fail
  refine (pnew_any room W HG.out.1 HG.out.2).mono ?_
  rintro e w1 ⟨p, q, mb, rfl, hpn⟩
  have HBL := hx (HB.out.kept hpn.k)
  have HD := hx (show Both w w1 p q mb 0 (.slice none 0 0) room 0 0 0 0 [] [] (fun _ => 0) (0 * 4000) none 0 0 from ⟨hpn.base HKW.out, L3.nil _ _ _, rfl, Nat.le_refl _⟩)
  clear HB hpn
  go_wp2_with fail
  clear g1 g2
  go_loopw [10] (fun iv wr => ∃ (i n : Nat) (v : Value) (now no asked full : Int) (h s : List En) (f : Int → Int) (b : Option Addr) (ln c : Nat), i ≤ len ∧ i ≤ 60 ∧ iv = .int .i64 i ∧ Pb w wr room asked full (.slice b ln c) ∧ Both w wr p q mb n v room now no asked full h s f (i * 4000) b ln c) (fun iv _ => len - (intOf iv).toNat)
  case atStart => exact ⟨0, 0, _, 0, 0, 0, 0, _, _, _, none, 0, 0, by omega, by omega, rfl, HBL.out, HD.out⟩
  case round =>
    clear HBL HD
    obtain ⟨i, n, v, now, no, asked, full, h, s, f, b, ln, c, hi, hi60, rfl, hb, hd⟩ := hrel
    have HBL := hx hb
    have HD := hx hd
    have HI := hx (And.intro hi hi60)
    clear hb hd
    by_cases hlt : i < len ∧ i < 60
    · have hj1 : (i : Int) < (len : Int) := by omega
      have hj2 : (i : Int) < 60 := by omega
      have hj0 : (0 : Int) ≤ (i : Int) := by omega
      obtain ⟨bo, off, x1, x2, x3, x4, rfl, hr, hwx⟩ := HA.out.hcell i hlt.1
      have HWX := hx hwx
      have q0 := kept_cell HD.out.pn.k (show w.cell? ⟨bo, off + i * 4, none⟩ = some (.int .i64 x1) from hr 0 (.int .i64 x1) rfl)
      have q1 := kept_cell HD.out.pn.k (hr 1 (.int .u32 x2) rfl)
      have q2 := kept_cell HD.out.pn.k (hr 2 (.int .i64 x3) rfl)
      have q3 := kept_cell HD.out.pn.k (hr 3 (.int .i64 x4) rfl)
      have hzo := zeroOp4
      have BN := hx (Blk.new wr [.int .i64 0, .int .u32 0, .int .i64 0, .int .i64 0] 33)
      have KN := hx ((Kept.refl [] wr).alloc (.cells #[.int .i64 0, .int .u32 0, .int .i64 0, .int .i64 0] 33))
      clear hr hwx
      go_upto_region 11 with (refine store_blk rfl 33 (.tmp 11) (.tmp 57) rfl wr.heap.size rfl 33 _ (op4 x1 x2 x3 x4) rfl BN.out rfl infoOp4 (by intro x hx; simp at hx; rcases hx with rfl | rfl | rfl | rfl <;> rfl) ?_; intro w3 hb3 hk3)
      have HB3 := hx hb3
      have HK3 := hx (KN.out.trans hk3 (fun _ h => h) (fun x h => by simp at h; subst h; exact .inr (Nat.le_refl _)))
      have HP3 := hx (HBL.out.kept HK3.out)
      have HD3 := hx (show Both w w3 p q mb n v room now no asked full h s f (i * 4000) b ln c from ⟨HD.out.pn.kept HK3.out, HD.out.ls.kept HK3.out, HD.out.hn, HD.out.hc⟩)
      have HGB := hx (show w.heap.size + 2 ≤ wr.heap.size from HBL.out.size)
      clear hb3 hk3 q0 q1 q2 q3 hzo BN KN HBL HD hlt gd1 gd2
      generalize wr.heap.size = gb at *
      have o0 := HB3.out.cell (i := 0) rfl
      have o1 := HB3.out.cell (i := 1) rfl
      have o2 := HB3.out.cell (i := 2) rfl
      have o3 := HB3.out.cell (i := 3) rfl
      by_cases k0 : x1 = 0
      · subst k0
        have HW := hx (pwait_any HD3.out.pn (by have h1 := HI.out; omega) x2 x3 HWX.out)
        go_upto_region 14 with (go_at_call 9; refine HW.out.mono ?_; rintro e w4 ⟨rfl, v9, no9, full9, h9, s9, f9, n9, hkk, hpn, heq, _⟩; have H4 := hx (And.intro hkk (And.intro hpn heq)); clear hkk hpn heq)
        have HP4 := hx (HP3.out.nk HD3.out.pn.nk H4.out.1)
        have HB4 := hx (blk_nk HD3.out.pn.nk H4.out.1 HB3.out (by decide) (by decide) (by decide))
        have HRW := hx (rwait_any b ln c (s.map (itN now f)) room asked full x2 x3 w4 (l3_nk HD3.out.pn.nk H4.out.1 HD3.out.ls) (by rw [List.length_map]; exact HD3.out.hn) HD3.out.hc (by have h1 := HD3.out.pn.hr; have h2 := HD3.out.pn.r64; have h3 := HD3.out.hn; omega) HD3.out.pn.a0.2 (by have h1 := HD3.out.pn.bd; have h2 := HI.out; omega))
        rw [H4.out.2.2] at HRW
        have o1 := HB4.out.cell (i := 1) rfl
        have o2 := HB4.out.cell (i := 2) rfl
        clear HW HP3 HB3 HD3
        go_upto_region 31 with (first
          | refine load_blk rfl 27 (.tmp 7) rfl (w.heap.size + 1) rfl 27 _ _ HP4.out.b1 Try.underlying27 rfl infoList ?_
          | (go_at_call 15; refine HRW.out.mono ?_; rintro e w5 ⟨b9, ln9, c9, rfl, hn5, hc5, hl5, hk5⟩; have H5 := hx (And.intro hn5 (And.intro hc5 (And.intro hl5 hk5))); have HP5 := hx (HP4.out.kept hk5); clear hn5 hc5 hl5 hk5)
          | (refine store_blk rfl 27 (.tmp 7) (.tmp 73) rfl (w.heap.size + 1) rfl 27 _ (ls4 room asked full9 (.slice b9 ln9 c9)) rfl HP5.out.b1 rfl infoList (by intro x hx; simp at hx; rcases hx with rfl | rfl | rfl | rfl <;> rfl) ?_; intro w9 hb9 hk9; have H9 := hx (And.intro hb9 hk9); clear hb9 hk9))
        have HP9 := hx (show Pb w w9 room asked full9 (.slice b9 ln9 c9) from ⟨H9.out.2.blk HP5.out.b0 (by simp), H9.out.1⟩)
        have HD9 := hx (show Both w w9 p q mb n9 v9 room now no9 asked full9 h9 s9 f9 (i * 4000 + 64) b9 ln9 c9 from ⟨(H4.out.2.1.kept H5.out.2.2.2).put HP5.out.b1 (by omega) H9.out.2 (by decide) (by decide) (by decide), H5.out.2.2.1.frame H9.out.2 (fun b hb xs hB => by simp at hb; subst hb; exact blk_neT HP5.out.b1 hB (by decide)), by rw [← H5.out.1, List.length_map], H5.out.2.1⟩)
        have HB9 := hx (H9.out.2.blk (H5.out.2.2.2.blk HB4.out (by simp)) (show gb ∉ [w.heap.size + 1] by have h1 := HGB.out; simp; omega))
        clear o0 o1 o2 o3 HRW H4 HP4 HB4 H5 HP5 H9
        have HSK := hx (fun (W1 : World) (hk : Kept [] w9 W1) => show W1.cell? ⟨w.heap.size + 1, 0, none⟩ = some (.int .i64 room) ∧ W1.cell? ⟨w.heap.size + 1, 1, none⟩ = some (.int .i64 asked) ∧ W1.cell? ⟨w.heap.size + 1, 2, none⟩ = some (.int .i64 full9) ∧ W1.cell? ⟨w.heap.size + 1, 3, none⟩ = some (.slice b9 ln9 c9) ∧ W1.cell? ⟨gb, 1, none⟩ = some (.int .u32 x2) ∧ Hx (Kept [] w9 W1) from ⟨kept_cell hk (HP9.out.b1.cell (i := 0) rfl), kept_cell hk (HP9.out.b1.cell (i := 1) rfl), kept_cell hk (HP9.out.b1.cell (i := 2) rfl), kept_cell hk (HP9.out.b1.cell (i := 3) rfl), kept_cell hk (HB9.out.cell (i := 1) rfl), hx hk⟩)
        have HNB := hx (show i * 4000 + 4000 ≤ 1000000 by have h1 := HI.out; omega)
        have HSM := hx (fun (W1 : World) (hs : W1.cell? ⟨w.heap.size + 1, 0, none⟩ = some (.int .i64 room) ∧ W1.cell? ⟨w.heap.size + 1, 1, none⟩ = some (.int .i64 asked) ∧ W1.cell? ⟨w.heap.size + 1, 2, none⟩ = some (.int .i64 full9) ∧ W1.cell? ⟨w.heap.size + 1, 3, none⟩ = some (.slice b9 ln9 c9) ∧ W1.cell? ⟨gb, 1, none⟩ = some (.int .u32 x2) ∧ Hx (Kept [] w9 W1)) => (nsame_any b9 ln9 c9 (HD9.out.pn.kept hs.2.2.2.2.2.out) (by have h1 := HNB.out; omega) (HD9.out.ls.kept hs.2.2.2.2.2.out) HD9.out.hn).mono (R' := fun e W2 => e = .returned (.bool true) ∧ (W2.cell? ⟨w.heap.size + 1, 0, none⟩ = some (.int .i64 room) ∧ W2.cell? ⟨w.heap.size + 1, 1, none⟩ = some (.int .i64 asked) ∧ W2.cell? ⟨w.heap.size + 1, 2, none⟩ = some (.int .i64 full9) ∧ W2.cell? ⟨w.heap.size + 1, 3, none⟩ = some (.slice b9 ln9 c9) ∧ W2.cell? ⟨gb, 1, none⟩ = some (.int .u32 x2) ∧ Hx (Kept [] w9 W2))) (fun e W2 ⟨h1, h2⟩ => ⟨h1, HSK.out W2 (hs.2.2.2.2.2.out.trans0 h2)⟩))
        have HHA := hx (fun (W1 : World) (hs : W1.cell? ⟨w.heap.size + 1, 0, none⟩ = some (.int .i64 room) ∧ W1.cell? ⟨w.heap.size + 1, 1, none⟩ = some (.int .i64 asked) ∧ W1.cell? ⟨w.heap.size + 1, 2, none⟩ = some (.int .i64 full9) ∧ W1.cell? ⟨w.heap.size + 1, 3, none⟩ = some (.slice b9 ln9 c9) ∧ W1.cell? ⟨gb, 1, none⟩ = some (.int .u32 x2) ∧ Hx (Kept [] w9 W1)) => (phas_any (HD9.out.pn.kept hs.2.2.2.2.2.out) (by have h1 := HNB.out; omega) x2).mono (R' := fun e W2 => e = .returned (.bool (hasN x2 (s9.map (itN now f9)))) ∧ (W2.cell? ⟨w.heap.size + 1, 0, none⟩ = some (.int .i64 room) ∧ W2.cell? ⟨w.heap.size + 1, 1, none⟩ = some (.int .i64 asked) ∧ W2.cell? ⟨w.heap.size + 1, 2, none⟩ = some (.int .i64 full9) ∧ W2.cell? ⟨w.heap.size + 1, 3, none⟩ = some (.slice b9 ln9 c9) ∧ W2.cell? ⟨gb, 1, none⟩ = some (.int .u32 x2) ∧ Hx (Kept [] w9 W2))) (fun e W2 ⟨h1, h2⟩ => ⟨h1, HSK.out W2 (hs.2.2.2.2.2.out.trans0 h2)⟩))
        have HRH := hx (fun (W1 : World) (hs : W1.cell? ⟨w.heap.size + 1, 0, none⟩ = some (.int .i64 room) ∧ W1.cell? ⟨w.heap.size + 1, 1, none⟩ = some (.int .i64 asked) ∧ W1.cell? ⟨w.heap.size + 1, 2, none⟩ = some (.int .i64 full9) ∧ W1.cell? ⟨w.heap.size + 1, 3, none⟩ = some (.slice b9 ln9 c9) ∧ W1.cell? ⟨gb, 1, none⟩ = some (.int .u32 x2) ∧ Hx (Kept [] w9 W1)) => (rhas_any b9 ln9 c9 (s9.map (itN now f9)) room asked full9 x2 W1 (HD9.out.ls.kept hs.2.2.2.2.2.out) (by rw [List.length_map]; exact HD9.out.hn) (by have h1 := HD9.out.pn.hr; have h2 := HD9.out.pn.r64; have h3 := HD9.out.hn; omega)).mono (R' := fun e W2 => e = .returned (.bool (hasN x2 (s9.map (itN now f9)))) ∧ (W2.cell? ⟨w.heap.size + 1, 0, none⟩ = some (.int .i64 room) ∧ W2.cell? ⟨w.heap.size + 1, 1, none⟩ = some (.int .i64 asked) ∧ W2.cell? ⟨w.heap.size + 1, 2, none⟩ = some (.int .i64 full9) ∧ W2.cell? ⟨w.heap.size + 1, 3, none⟩ = some (.slice b9 ln9 c9) ∧ W2.cell? ⟨gb, 1, none⟩ = some (.int .u32 x2) ∧ Hx (Kept [] w9 W2))) (fun e W2 ⟨h1, h2⟩ => ⟨h1, HSK.out W2 (hs.2.2.2.2.2.out.trans0 h2)⟩))
        generalize hasN x2 (s9.map (itN now f9)) = bh at *
        have hSS := HSK.out w9 (Kept.refl [] w9)
        go_region_held3 (fun W1 => W1.cell? ⟨w.heap.size + 1, 0, none⟩ = some (.int .i64 room) ∧ W1.cell? ⟨w.heap.size + 1, 1, none⟩ = some (.int .i64 asked) ∧ W1.cell? ⟨w.heap.size + 1, 2, none⟩ = some (.int .i64 full9) ∧ W1.cell? ⟨w.heap.size + 1, 3, none⟩ = some (.slice b9 ln9 c9) ∧ W1.cell? ⟨gb, 1, none⟩ = some (.int .u32 x2) ∧ Hx (Kept [] w9 W1)) (first | exact hSS | exact HSK.out _ ((Kept.refl [] w9).drew) | assumption)
          (first | (go_at_call 21; refine (HSM.out _ (by first | exact hSS | assumption)).mono ?_; rintro e W2 ⟨rfl, hSS⟩) | (go_at_call 10; refine (HHA.out _ (by first | exact hSS | assumption)).mono ?_; rintro e W2 ⟨rfl, hSS⟩) | (go_at_call 8; refine (HRH.out _ (by first | exact hSS | assumption)).mono ?_; rintro e W2 ⟨rfl, hSS⟩))
        all_goals
          have HKF := hx hSS.2.2.2.2.2.out
          clear hSS HSM HHA HRH HSK
          go_wp2
          go_roundw
          case rel => exact ⟨i + 1, n9, v9, now, no9, asked, full9, h9, s9, f9, b9, ln9, c9, by omega, by omega, by go_num, HP9.out.kept HKF.out, ⟨(HD9.out.pn.kept HKF.out).mono (by omega), HD9.out.ls.kept HKF.out, HD9.out.hn, HD9.out.hc⟩⟩
          case measure => simp [intOf] <;> omega
      by_cases k1 : x1 = 1
      · subst k1
        have HW := hx (pstop_any HD3.out.pn (by have h1 := HI.out; omega) x2 HWX.out)
        go_upto_region 17 with (go_at_call 13; refine HW.out.mono ?_; rintro e w4 ⟨rfl, v9, f9, hkk, hpn, heq⟩; have H4 := hx (And.intro hkk (And.intro hpn heq)); clear hkk hpn heq)
        have HP4 := hx (HP3.out.nk HD3.out.pn.nk H4.out.1)
        have HB4 := hx (blk_nk HD3.out.pn.nk H4.out.1 HB3.out (by decide) (by decide) (by decide))
        have HRW := hx (rstop_any b ln c (s.map (itN now f)) room asked full x2 w4 (l3_nk HD3.out.pn.nk H4.out.1 HD3.out.ls) (by rw [List.length_map]; exact HD3.out.hn) (by have h1 := HD3.out.pn.hr; have h2 := HD3.out.pn.r64; have h3 := HD3.out.hn; omega))
        rw [H4.out.2.2] at HRW
        have o1 := HB4.out.cell (i := 1) rfl
        clear HW HP3 HB3 HD3
        generalize h.filter (notKey x2) = h9 at *
        generalize s.filter (notKey x2) = s9 at *
        go_upto_region 31 with (first
          | refine load_blk rfl 27 (.tmp 7) rfl (w.heap.size + 1) rfl 27 _ _ HP4.out.b1 Try.underlying27 rfl infoList ?_
          | (go_at_call 16; refine HRW.out.mono ?_; rintro e w5 ⟨b9, ln9, c9, rfl, hn5, hc5, hl5, hk5⟩; have H5 := hx (And.intro hn5 (And.intro hc5 (And.intro hl5 hk5))); have HP5 := hx (HP4.out.kept hk5); clear hn5 hc5 hl5 hk5)
          | (refine store_blk rfl 27 (.tmp 7) (.tmp 83) rfl (w.heap.size + 1) rfl 27 _ (ls4 room asked full (.slice b9 ln9 c9)) rfl HP5.out.b1 rfl infoList (by intro x hx; simp at hx; rcases hx with rfl | rfl | rfl | rfl <;> rfl) ?_; intro w9 hb9 hk9; have H9 := hx (And.intro hb9 hk9); clear hb9 hk9))
        have HP9 := hx (show Pb w w9 room asked full (.slice b9 ln9 c9) from ⟨H9.out.2.blk HP5.out.b0 (by simp), H9.out.1⟩)
        have HD9 := hx (show Both w w9 p q mb n v9 room now no asked full h9 s9 f9 (i * 4000 + 64) b9 ln9 c9 from ⟨(H4.out.2.1.kept H5.out.2.2.2).put HP5.out.b1 (by omega) H9.out.2 (by decide) (by decide) (by decide), H5.out.2.2.1.frame H9.out.2 (fun b hb xs hB => by simp at hb; subst hb; exact blk_neT HP5.out.b1 hB (by decide)), by rw [← H5.out.1, List.length_map], H5.out.2.1⟩)
        have HB9 := hx (H9.out.2.blk (H5.out.2.2.2.blk HB4.out (by simp)) (show gb ∉ [w.heap.size + 1] by have h1 := HGB.out; simp; omega))
        clear o0 o1 o2 o3 HRW H4 HP4 HB4 H5 HP5 H9
        have HSK := hx (fun (W1 : World) (hk : Kept [] w9 W1) => show W1.cell? ⟨w.heap.size + 1, 0, none⟩ = some (.int .i64 room) ∧ W1.cell? ⟨w.heap.size + 1, 1, none⟩ = some (.int .i64 asked) ∧ W1.cell? ⟨w.heap.size + 1, 2, none⟩ = some (.int .i64 full) ∧ W1.cell? ⟨w.heap.size + 1, 3, none⟩ = some (.slice b9 ln9 c9) ∧ W1.cell? ⟨gb, 1, none⟩ = some (.int .u32 x2) ∧ Hx (Kept [] w9 W1) from ⟨kept_cell hk (HP9.out.b1.cell (i := 0) rfl), kept_cell hk (HP9.out.b1.cell (i := 1) rfl), kept_cell hk (HP9.out.b1.cell (i := 2) rfl), kept_cell hk (HP9.out.b1.cell (i := 3) rfl), kept_cell hk (HB9.out.cell (i := 1) rfl), hx hk⟩)
        have HNB := hx (show i * 4000 + 4000 ≤ 1000000 by have h1 := HI.out; omega)
        have HSM := hx (fun (W1 : World) (hs : W1.cell? ⟨w.heap.size + 1, 0, none⟩ = some (.int .i64 room) ∧ W1.cell? ⟨w.heap.size + 1, 1, none⟩ = some (.int .i64 asked) ∧ W1.cell? ⟨w.heap.size + 1, 2, none⟩ = some (.int .i64 full) ∧ W1.cell? ⟨w.heap.size + 1, 3, none⟩ = some (.slice b9 ln9 c9) ∧ W1.cell? ⟨gb, 1, none⟩ = some (.int .u32 x2) ∧ Hx (Kept [] w9 W1)) => (nsame_any b9 ln9 c9 (HD9.out.pn.kept hs.2.2.2.2.2.out) (by have h1 := HNB.out; omega) (HD9.out.ls.kept hs.2.2.2.2.2.out) HD9.out.hn).mono (R' := fun e W2 => e = .returned (.bool true) ∧ (W2.cell? ⟨w.heap.size + 1, 0, none⟩ = some (.int .i64 room) ∧ W2.cell? ⟨w.heap.size + 1, 1, none⟩ = some (.int .i64 asked) ∧ W2.cell? ⟨w.heap.size + 1, 2, none⟩ = some (.int .i64 full) ∧ W2.cell? ⟨w.heap.size + 1, 3, none⟩ = some (.slice b9 ln9 c9) ∧ W2.cell? ⟨gb, 1, none⟩ = some (.int .u32 x2) ∧ Hx (Kept [] w9 W2))) (fun e W2 ⟨h1, h2⟩ => ⟨h1, HSK.out W2 (hs.2.2.2.2.2.out.trans0 h2)⟩))
        have HHA := hx (fun (W1 : World) (hs : W1.cell? ⟨w.heap.size + 1, 0, none⟩ = some (.int .i64 room) ∧ W1.cell? ⟨w.heap.size + 1, 1, none⟩ = some (.int .i64 asked) ∧ W1.cell? ⟨w.heap.size + 1, 2, none⟩ = some (.int .i64 full) ∧ W1.cell? ⟨w.heap.size + 1, 3, none⟩ = some (.slice b9 ln9 c9) ∧ W1.cell? ⟨gb, 1, none⟩ = some (.int .u32 x2) ∧ Hx (Kept [] w9 W1)) => (phas_any (HD9.out.pn.kept hs.2.2.2.2.2.out) (by have h1 := HNB.out; omega) x2).mono (R' := fun e W2 => e = .returned (.bool (hasN x2 (s9.map (itN now f9)))) ∧ (W2.cell? ⟨w.heap.size + 1, 0, none⟩ = some (.int .i64 room) ∧ W2.cell? ⟨w.heap.size + 1, 1, none⟩ = some (.int .i64 asked) ∧ W2.cell? ⟨w.heap.size + 1, 2, none⟩ = some (.int .i64 full) ∧ W2.cell? ⟨w.heap.size + 1, 3, none⟩ = some (.slice b9 ln9 c9) ∧ W2.cell? ⟨gb, 1, none⟩ = some (.int .u32 x2) ∧ Hx (Kept [] w9 W2))) (fun e W2 ⟨h1, h2⟩ => ⟨h1, HSK.out W2 (hs.2.2.2.2.2.out.trans0 h2)⟩))
        have HRH := hx (fun (W1 : World) (hs : W1.cell? ⟨w.heap.size + 1, 0, none⟩ = some (.int .i64 room) ∧ W1.cell? ⟨w.heap.size + 1, 1, none⟩ = some (.int .i64 asked) ∧ W1.cell? ⟨w.heap.size + 1, 2, none⟩ = some (.int .i64 full) ∧ W1.cell? ⟨w.heap.size + 1, 3, none⟩ = some (.slice b9 ln9 c9) ∧ W1.cell? ⟨gb, 1, none⟩ = some (.int .u32 x2) ∧ Hx (Kept [] w9 W1)) => (rhas_any b9 ln9 c9 (s9.map (itN now f9)) room asked full x2 W1 (HD9.out.ls.kept hs.2.2.2.2.2.out) (by rw [List.length_map]; exact HD9.out.hn) (by have h1 := HD9.out.pn.hr; have h2 := HD9.out.pn.r64; have h3 := HD9.out.hn; omega)).mono (R' := fun e W2 => e = .returned (.bool (hasN x2 (s9.map (itN now f9)))) ∧ (W2.cell? ⟨w.heap.size + 1, 0, none⟩ = some (.int .i64 room) ∧ W2.cell? ⟨w.heap.size + 1, 1, none⟩ = some (.int .i64 asked) ∧ W2.cell? ⟨w.heap.size + 1, 2, none⟩ = some (.int .i64 full) ∧ W2.cell? ⟨w.heap.size + 1, 3, none⟩ = some (.slice b9 ln9 c9) ∧ W2.cell? ⟨gb, 1, none⟩ = some (.int .u32 x2) ∧ Hx (Kept [] w9 W2))) (fun e W2 ⟨h1, h2⟩ => ⟨h1, HSK.out W2 (hs.2.2.2.2.2.out.trans0 h2)⟩))
        generalize hasN x2 (s9.map (itN now f9)) = bh at *
        have hSS := HSK.out w9 (Kept.refl [] w9)
        go_region_held3 (fun W1 => W1.cell? ⟨w.heap.size + 1, 0, none⟩ = some (.int .i64 room) ∧ W1.cell? ⟨w.heap.size + 1, 1, none⟩ = some (.int .i64 asked) ∧ W1.cell? ⟨w.heap.size + 1, 2, none⟩ = some (.int .i64 full) ∧ W1.cell? ⟨w.heap.size + 1, 3, none⟩ = some (.slice b9 ln9 c9) ∧ W1.cell? ⟨gb, 1, none⟩ = some (.int .u32 x2) ∧ Hx (Kept [] w9 W1)) (first | exact hSS | exact HSK.out _ ((Kept.refl [] w9).drew) | assumption)
          (first | (go_at_call 21; refine (HSM.out _ (by first | exact hSS | assumption)).mono ?_; rintro e W2 ⟨rfl, hSS⟩) | (go_at_call 10; refine (HHA.out _ (by first | exact hSS | assumption)).mono ?_; rintro e W2 ⟨rfl, hSS⟩) | (go_at_call 8; refine (HRH.out _ (by first | exact hSS | assumption)).mono ?_; rintro e W2 ⟨rfl, hSS⟩))
        all_goals
          have HKF := hx hSS.2.2.2.2.2.out
          clear hSS HSM HHA HRH HSK
          go_wp2
          go_roundw
          case rel => exact ⟨i + 1, n, v9, now, no, asked, full, h9, s9, f9, b9, ln9, c9, by omega, by omega, by go_num, HP9.out.kept HKF.out, ⟨(HD9.out.pn.kept HKF.out).mono (by omega), HD9.out.ls.kept HKF.out, HD9.out.hn, HD9.out.hc⟩⟩
          case measure => simp [intOf] <;> omega
      by_cases k2 : x1 = 2
      · subst k2
        have hz := zeroRList
        have HRW := hx (rbelow_any b ln c (s.map (itN now f)) room asked full x2 w3 HD3.out.ls (by rw [List.length_map]; exact HD3.out.hn) (by have h1 := HD3.out.pn.hr; have h2 := HD3.out.pn.r64; have h3 := HD3.out.hn; omega) (u32_in HWX.out) (fun x hx => by
          rw [List.mem_map] at hx
          obtain ⟨y, hy, rfl⟩ := hx
          exact u32_in (HD3.out.pn.wf y hy)))
        go_upto_region 20 with (first
          | refine load_blk rfl 27 (.tmp 7) rfl (w.heap.size + 1) rfl 27 _ _ HP3.out.b1 Try.underlying27 rfl infoList ?_
          | (go_at_call 17; refine HRW.out.mono ?_; rintro e w4 ⟨b9, ln9, c9, rfl, hn5, hc5, hl5, hk5⟩; have H5 := hx (And.intro hn5 (And.intro hc5 (And.intro hl5 hk5))); clear hn5 hc5 hl5 hk5)
          | (refine store_blk rfl 27 (.tmp 12) (.tmp 91) rfl w4.heap.size rfl 27 _ (ls4 room asked full (.slice b9 ln9 c9)) rfl (Blk.new w4 [.int .i64 0, .int .i64 0, .int .i64 0, .slice none 0 0] 27) rfl infoList (by intro x hx; simp at hx; rcases hx with rfl | rfl | rfl | rfl <;> rfl) ?_; intro w5 hb5 hk5; have H6 := hx (And.intro hb5 hk5); clear hb5 hk5))
        have K6 := hx (show Kept [] w3 w5 from H5.out.2.2.2.trans0 (((Kept.refl [] w4).alloc (.cells #[.int .i64 0, .int .i64 0, .int .i64 0, .slice none 0 0] 27)).trans H6.out.2 (fun _ h => h) (fun x h => by simp at h; subst h; exact .inr (Nat.le_refl _))))
        have L6 := hx (H5.out.2.2.1.kept (((Kept.refl [] w4).alloc (.cells #[.int .i64 0, .int .i64 0, .int .i64 0, .slice none 0 0] 27)).trans H6.out.2 (fun _ h => h) (fun x h => by simp at h; subst h; exact .inr (Nat.le_refl _))))
        have B6 := hx H6.out.1
        have HGE := hx (show w.heap.size + 2 ≤ w4.heap.size by have h1 := HP3.out.size; have h2 := H5.out.2.2.2.size; omega)
        have HLE := hx (And.intro H5.out.1 H5.out.2.1)
        have HW := hx (pbelow_any (HD3.out.pn.kept K6.out) (by have h1 := HI.out; omega) x2 HWX.out)
        have HP6 := hx (HP3.out.kept K6.out)
        have HB6 := hx (K6.out.blk HB3.out (by simp))
        have HD6 := hx (HD3.out.pn.kept K6.out)
        have HN6 := hx HD3.out.hn
        have o1 := HB6.out.cell (i := 1) rfl
        clear hz HRW HP3 HB3 HD3 H5 H6 K6
        generalize w4.heap.size = g12 at *
        go_upto_region 22 with (go_at_call 18; refine HW.out.mono ?_; rintro e w7 ⟨v9, h9, s9, f9, he, hkk, hpn, heq⟩; have hlq : s9.length = ln9 := (by have h1 := HLE.out.1; rw [heq, List.length_map] at h1; exact h1); rw [HN6.out, hlq] at he; subst he; have H4 := hx (And.intro hkk (And.intro hpn (And.intro heq hlq))); clear hkk hpn heq hlq)
        have HP7 := hx (HP6.out.nk HD6.out.nk H4.out.1)
        have HB7 := hx (blk_nk HD6.out.nk H4.out.1 HB6.out (by decide) (by decide) (by decide))
        have B7 := hx (blk_nk HD6.out.nk H4.out.1 B6.out (by decide) (by decide) (by decide))
        have L7 := hx (l3_nk HD6.out.nk H4.out.1 L6.out)
        rw [H4.out.2.2.1] at L7
        clear HW HP6 HB6 B6 L6 HD6 o1
        go_upto_region 31 with (first
          | refine load_blk rfl 27 (.tmp 12) rfl g12 rfl 27 _ _ B7.out Try.underlying27 rfl infoList ?_
          | (refine store_blk rfl 27 (.tmp 7) (.tmp 100) rfl (w.heap.size + 1) rfl 27 _ (ls4 room asked full (.slice b9 ln9 c9)) rfl HP7.out.b1 rfl infoList (by intro x hx; simp at hx; rcases hx with rfl | rfl | rfl | rfl <;> rfl) ?_; intro w9 hb9 hk9; have H9 := hx (And.intro hb9 hk9); clear hb9 hk9))
        have HP9 := hx (show Pb w w9 room asked full (.slice b9 ln9 c9) from ⟨H9.out.2.blk HP7.out.b0 (by simp), H9.out.1⟩)
        have HD9 := hx (show Both w w9 p q mb n v9 room now no asked full h9 s9 f9 (i * 4000 + 64) b9 ln9 c9 from ⟨H4.out.2.1.put HP7.out.b1 (by omega) H9.out.2 (by decide) (by decide) (by decide), L7.out.frame H9.out.2 (fun b hb xs hB => by simp at hb; subst hb; exact blk_neT HP7.out.b1 hB (by decide)), H4.out.2.2.2, HLE.out.2⟩)
        have HB9 := hx (H9.out.2.blk HB7.out (show gb ∉ [w.heap.size + 1] by have h1 := HGB.out; simp; omega))
        clear o0 o2 o3 H4 HP7 HB7 B7 L7 H9
        have HSK := hx (fun (W1 : World) (hk : Kept [] w9 W1) => show W1.cell? ⟨w.heap.size + 1, 0, none⟩ = some (.int .i64 room) ∧ W1.cell? ⟨w.heap.size + 1, 1, none⟩ = some (.int .i64 asked) ∧ W1.cell? ⟨w.heap.size + 1, 2, none⟩ = some (.int .i64 full) ∧ W1.cell? ⟨w.heap.size + 1, 3, none⟩ = some (.slice b9 ln9 c9) ∧ W1.cell? ⟨gb, 1, none⟩ = some (.int .u32 x2) ∧ Hx (Kept [] w9 W1) from ⟨kept_cell hk (HP9.out.b1.cell (i := 0) rfl), kept_cell hk (HP9.out.b1.cell (i := 1) rfl), kept_cell hk (HP9.out.b1.cell (i := 2) rfl), kept_cell hk (HP9.out.b1.cell (i := 3) rfl), kept_cell hk (HB9.out.cell (i := 1) rfl), hx hk⟩)
        have HNB := hx (show i * 4000 + 4000 ≤ 1000000 by have h1 := HI.out; omega)
        have HSM := hx (fun (W1 : World) (hs : W1.cell? ⟨w.heap.size + 1, 0, none⟩ = some (.int .i64 room) ∧ W1.cell? ⟨w.heap.size + 1, 1, none⟩ = some (.int .i64 asked) ∧ W1.cell? ⟨w.heap.size + 1, 2, none⟩ = some (.int .i64 full) ∧ W1.cell? ⟨w.heap.size + 1, 3, none⟩ = some (.slice b9 ln9 c9) ∧ W1.cell? ⟨gb, 1, none⟩ = some (.int .u32 x2) ∧ Hx (Kept [] w9 W1)) => (nsame_any b9 ln9 c9 (HD9.out.pn.kept hs.2.2.2.2.2.out) (by have h1 := HNB.out; omega) (HD9.out.ls.kept hs.2.2.2.2.2.out) HD9.out.hn).mono (R' := fun e W2 => e = .returned (.bool true) ∧ (W2.cell? ⟨w.heap.size + 1, 0, none⟩ = some (.int .i64 room) ∧ W2.cell? ⟨w.heap.size + 1, 1, none⟩ = some (.int .i64 asked) ∧ W2.cell? ⟨w.heap.size + 1, 2, none⟩ = some (.int .i64 full) ∧ W2.cell? ⟨w.heap.size + 1, 3, none⟩ = some (.slice b9 ln9 c9) ∧ W2.cell? ⟨gb, 1, none⟩ = some (.int .u32 x2) ∧ Hx (Kept [] w9 W2))) (fun e W2 ⟨h1, h2⟩ => ⟨h1, HSK.out W2 (hs.2.2.2.2.2.out.trans0 h2)⟩))
        have HHA := hx (fun (W1 : World) (hs : W1.cell? ⟨w.heap.size + 1, 0, none⟩ = some (.int .i64 room) ∧ W1.cell? ⟨w.heap.size + 1, 1, none⟩ = some (.int .i64 asked) ∧ W1.cell? ⟨w.heap.size + 1, 2, none⟩ = some (.int .i64 full) ∧ W1.cell? ⟨w.heap.size + 1, 3, none⟩ = some (.slice b9 ln9 c9) ∧ W1.cell? ⟨gb, 1, none⟩ = some (.int .u32 x2) ∧ Hx (Kept [] w9 W1)) => (phas_any (HD9.out.pn.kept hs.2.2.2.2.2.out) (by have h1 := HNB.out; omega) x2).mono (R' := fun e W2 => e = .returned (.bool (hasN x2 (s9.map (itN now f9)))) ∧ (W2.cell? ⟨w.heap.size + 1, 0, none⟩ = some (.int .i64 room) ∧ W2.cell? ⟨w.heap.size + 1, 1, none⟩ = some (.int .i64 asked) ∧ W2.cell? ⟨w.heap.size + 1, 2, none⟩ = some (.int .i64 full) ∧ W2.cell? ⟨w.heap.size + 1, 3, none⟩ = some (.slice b9 ln9 c9) ∧ W2.cell? ⟨gb, 1, none⟩ = some (.int .u32 x2) ∧ Hx (Kept [] w9 W2))) (fun e W2 ⟨h1, h2⟩ => ⟨h1, HSK.out W2 (hs.2.2.2.2.2.out.trans0 h2)⟩))
        have HRH := hx (fun (W1 : World) (hs : W1.cell? ⟨w.heap.size + 1, 0, none⟩ = some (.int .i64 room) ∧ W1.cell? ⟨w.heap.size + 1, 1, none⟩ = some (.int .i64 asked) ∧ W1.cell? ⟨w.heap.size + 1, 2, none⟩ = some (.int .i64 full) ∧ W1.cell? ⟨w.heap.size + 1, 3, none⟩ = some (.slice b9 ln9 c9) ∧ W1.cell? ⟨gb, 1, none⟩ = some (.int .u32 x2) ∧ Hx (Kept [] w9 W1)) => (rhas_any b9 ln9 c9 (s9.map (itN now f9)) room asked full x2 W1 (HD9.out.ls.kept hs.2.2.2.2.2.out) (by rw [List.length_map]; exact HD9.out.hn) (by have h1 := HD9.out.pn.hr; have h2 := HD9.out.pn.r64; have h3 := HD9.out.hn; omega)).mono (R' := fun e W2 => e = .returned (.bool (hasN x2 (s9.map (itN now f9)))) ∧ (W2.cell? ⟨w.heap.size + 1, 0, none⟩ = some (.int .i64 room) ∧ W2.cell? ⟨w.heap.size + 1, 1, none⟩ = some (.int .i64 asked) ∧ W2.cell? ⟨w.heap.size + 1, 2, none⟩ = some (.int .i64 full) ∧ W2.cell? ⟨w.heap.size + 1, 3, none⟩ = some (.slice b9 ln9 c9) ∧ W2.cell? ⟨gb, 1, none⟩ = some (.int .u32 x2) ∧ Hx (Kept [] w9 W2))) (fun e W2 ⟨h1, h2⟩ => ⟨h1, HSK.out W2 (hs.2.2.2.2.2.out.trans0 h2)⟩))
        generalize hasN x2 (s9.map (itN now f9)) = bh at *
        have hSS := HSK.out w9 (Kept.refl [] w9)
        go_region_held3 (fun W1 => W1.cell? ⟨w.heap.size + 1, 0, none⟩ = some (.int .i64 room) ∧ W1.cell? ⟨w.heap.size + 1, 1, none⟩ = some (.int .i64 asked) ∧ W1.cell? ⟨w.heap.size + 1, 2, none⟩ = some (.int .i64 full) ∧ W1.cell? ⟨w.heap.size + 1, 3, none⟩ = some (.slice b9 ln9 c9) ∧ W1.cell? ⟨gb, 1, none⟩ = some (.int .u32 x2) ∧ Hx (Kept [] w9 W1)) (first | exact hSS | exact HSK.out _ ((Kept.refl [] w9).drew) | assumption)
          (first | (go_at_call 21; refine (HSM.out _ (by first | exact hSS | assumption)).mono ?_; rintro e W2 ⟨rfl, hSS⟩) | (go_at_call 10; refine (HHA.out _ (by first | exact hSS | assumption)).mono ?_; rintro e W2 ⟨rfl, hSS⟩) | (go_at_call 8; refine (HRH.out _ (by first | exact hSS | assumption)).mono ?_; rintro e W2 ⟨rfl, hSS⟩))
        all_goals
          have HKF := hx hSS.2.2.2.2.2.out
          clear hSS HSM HHA HRH HSK
          go_wp2
          go_roundw
          case rel => exact ⟨i + 1, n, v9, now, no, asked, full, h9, s9, f9, b9, ln9, c9, by omega, by omega, by go_num, HP9.out.kept HKF.out, ⟨(HD9.out.pn.kept HKF.out).mono (by omega), HD9.out.ls.kept HKF.out, HD9.out.hn, HD9.out.hc⟩⟩
          case measure => simp [intOf] <;> omega
      by_cases k3 : x1 = 3
      · subst k3
        go_upto_region 24 with fail
        clear o0 o1 o2 o3
        have HS0 := hx (And.intro HP3.out (And.intro (show Both w w3 p q mb n v room now no asked full h s f (i * 4000 + 0 * 64) b ln c from ⟨HD3.out.pn.mono (by omega), HD3.out.ls, HD3.out.hn, HD3.out.hc⟩) HB3.out))
        clear HP3 HD3 HB3
        go_wp2_with fail
        go_loopw [14] (fun kv wx => ∃ (kk n9 : Nat) (v9 : Value) (now9 no9 asked9 : Int) (h9 s9 : List En) (f9 : Int → Int) (b9 : Option Addr) (ln9 c9 : Nat), kk ≤ 60 ∧ kv = .int .i64 kk ∧ Pb w wx room asked9 full (.slice b9 ln9 c9) ∧ Both w wx p q mb n9 v9 room now9 no9 asked9 full h9 s9 f9 (i * 4000 + kk * 64) b9 ln9 c9 ∧ Blk wx gb (op4 3 x2 x3 x4) 33) (fun kv _ => 60 - (intOf kv).toNat)
        case atStart => exact ⟨0, _, _, _, _, _, _, _, _, _, _, _, by omega, rfl, HS0.out.1, HS0.out.2.1, HS0.out.2.2⟩
        case round =>
          clear HS0
          obtain ⟨kk, n9, v9, now9, no9, asked9, h9, s9, f9, b9, ln9, c9, hkk60, rfl, hp9, hd9, hb9⟩ := hrel
          have HP9 := hx hp9
          have HD9 := hx hd9
          have HB9 := hx hb9
          clear hp9 hd9 hb9
          obtain ⟨w9, hw9⟩ : ∃ w9, w9 = wr := ⟨_, rfl⟩
          subst hw9
          have o2 := HB9.out.cell (i := 2) rfl
          have o3 := HB9.out.cell (i := 3) rfl
          have hkk0 : (0 : Int) ≤ (kk : Int) := by omega
          by_cases hzz : (kk : Int) < x4 ∧ kk < 60
          · have hz1 := hzz.1
            have hz2 : (kk : Int) < 60 := by omega
            have hz := zeroRList
            have HT := hx (rtick19_any b9 ln9 c9 (s9.map (itN now9 f9)) room asked9 full x3 w9 HD9.out.ls (by rw [List.length_map]; exact HD9.out.hn) (by have h1 := HD9.out.pn.hr; have h2 := HD9.out.pn.r64; have h3 := HD9.out.hn; omega) HD9.out.pn.a0.1 (by have h1 := HD9.out.pn.bd; have h2 := HI.out; omega) (fun x hx => by
              rw [List.mem_map] at hx
              obtain ⟨y, hy, rfl⟩ := hx
              have h1 := HD9.out.pn.tp.due y hy
              have h2 := HD9.out.pn.tp.now0
              have h3 := HD9.out.pn.tr y.key
              simp only [itN]
              omega))
            have HPT := hx (fun (W1 : World) (hk : Kept [] w9 W1) => ptick_any (HD9.out.pn.kept hk) (by have h1 := HI.out; omega) x3)
            have HTL := hx (show (toldN (s9.map (itN now9 f9))).length ≤ 64 by have h0 := told_len (s9.map (itN now9 f9)); rw [List.length_map] at h0; have h1 := HD9.out.pn.hr; have h2 := HD9.out.pn.r64; omega)
            have HTP := hx (show ∀ w' e, TkP w9 room asked9 full x3 (s9.map (itN now9 f9)) e w' → ∃ b5 ln5 c5 ob od, e = .returned (.tuple #[.agg #[.int .i64 room, .int .i64 (asked9 + (toldN (s9.map (itN now9 f9))).length), .int .i64 full, .slice b5 ln5 c5], .slice ob (toldN (s9.map (itN now9 f9))).length od]) ∧ Hx ((putsN x3 (toldN (s9.map (itN now9 f9))) (restN (s9.map (itN now9 f9)))).length = ln5 ∧ ln5 ≤ c5 ∧ L3 w' 56 b5 (putsN x3 (toldN (s9.map (itN now9 f9))) (restN (s9.map (itN now9 f9)))) ∧ IkT w' ob ((toldN (s9.map (itN now9 f9))).map (·.1)) ∧ Kept [] w9 w') from fun w' e h => by
              obtain ⟨b5, ln5, c5, ob, od, h1, h2, h3, h4, _, h6, h7⟩ := h
              exact ⟨b5, ln5, c5, ob, od, h1, hx ⟨h2, h3, h4, h6, h7⟩⟩)
            go_upto_region 28 with (first
              | refine load_blk rfl 27 (.tmp 7) rfl (w.heap.size + 1) rfl 27 _ _ HP9.out.b1 Try.underlying27 rfl infoList ?_
              | (go_at_call 19; refine HT.out.mono ?_; rintro e w4 htk; obtain ⟨b5, ln5, c5, ob, od, rfl, H5⟩ := HTP.out _ _ htk; clear htk)
              | (refine store_blk rfl 27 (.tmp 15) (.tmp 118) rfl w4.heap.size rfl 27 _ (ls4 room (asked9 + (toldN (s9.map (itN now9 f9))).length) full (.slice b5 ln5 c5)) rfl (Blk.new w4 [.int .i64 0, .int .i64 0, .int .i64 0, .slice none 0 0] 27) rfl infoList (by intro x hx; simp at hx; rcases hx with rfl | rfl | rfl | rfl <;> rfl) ?_; intro w5 hb5 hk5; have H6 := hx (And.intro hb5 hk5); clear hb5 hk5))
            have K45 := hx (((Kept.refl [] w4).alloc (.cells #[.int .i64 0, .int .i64 0, .int .i64 0, .slice none 0 0] 27)).trans H6.out.2 (fun _ h => h) (fun x h => by simp at h; subst h; exact .inr (Nat.le_refl _)))
            have K6 := hx (show Kept [] w9 w5 from H5.out.2.2.2.2.trans0 K45.out)
            have L6 := hx (H5.out.2.2.1.kept K45.out)
            have I6 := hx (show IkT w5 ob ((toldN (s9.map (itN now9 f9))).map (·.1)) from ⟨H5.out.2.2.2.1.cell.kept K45.out, fun hne => by
              obtain ⟨g, off, xs, h1, h2⟩ := H5.out.2.2.2.1.blk hne
              exact ⟨g, off, xs, h1, K45.out.blk h2 (by simp)⟩⟩)
            have B6 := hx H6.out.1
            have HGE := hx (show w.heap.size + 2 ≤ w4.heap.size by have h1 := HP9.out.size; have h2 := H5.out.2.2.2.2.size; omega)
            have HLE := hx (And.intro H5.out.1 H5.out.2.1)
            have HW := hx (HPT.out w5 K6.out)
            have HP6 := hx (HP9.out.kept K6.out)
            have HB6 := hx (K6.out.blk HB9.out (by simp))
            have HD6 := hx (HD9.out.pn.kept K6.out)
            have o2 := HB6.out.cell (i := 2) rfl
            clear hz HT HPT HTP HP9 HB9 HD9 H5 H6 K6 K45 o3
            generalize w4.heap.size = g12 at *
            generalize toldN (s9.map (itN now9 f9)) = tl at *
            generalize restN (s9.map (itN now9 f9)) = rl at *
            go_upto_region 30 with (first
              | (go_at_call 11; refine HW.out.mono ?_; rintro e w7 ⟨v10, no10, h10, s10, f10, n10, a10, c10, rfl, hkk, hpn, hik, hpe, _⟩; have H4 := hx (And.intro hkk (And.intro hpn (And.intro hik hpe))); clear hkk hpn hik hpe; have HNM := hx (numbers_any a10 ob tl.length c10 od (tl.map (·.1)) w7 H4.out.2.2.1 (ikt_nk HD6.out.nk H4.out.1 I6.out).cell (by rw [List.length_map]) (by have h1 := HTL.out; omega)))
              | (go_at_call 20; refine HNM.out.mono ?_; rintro e w8 ⟨rfl, hk8⟩; have HK8 := hx hk8; clear hk8))
            have HP8 := hx ((HP6.out.nk HD6.out.nk H4.out.1).kept HK8.out)
            have HB8 := hx (HK8.out.blk (blk_nk HD6.out.nk H4.out.1 HB6.out (by decide) (by decide) (by decide)) (by simp))
            have B8 := hx (HK8.out.blk (blk_nk HD6.out.nk H4.out.1 B6.out (by decide) (by decide) (by decide)) (by simp))
            have L8 := hx ((l3_nk HD6.out.nk H4.out.1 L6.out).kept HK8.out)
            have HD8 := hx (H4.out.2.1.kept HK8.out)
            have HEQ := hx H4.out.2.2.2
            rw [HEQ.out] at L8 HLE
            clear HW HP6 HB6 B6 L6 I6 HD6 o2 HNM H4 HK8
            have HWA := hx (show ∀ w9, Blk w9 (w.heap.size + 1) (ls4 room (asked9 + tl.length) full (.slice b5 ln5 c5)) 27 → Kept [w.heap.size + 1] w8 w9 → Pb w w9 room (asked9 + tl.length) full (.slice b5 ln5 c5) ∧ Both w w9 p q mb n10 v10 room (now9 + 1) no10 (asked9 + tl.length) full h10 s10 f10 (i * 4000 + (kk + 1) * 64) b5 ln5 c5 ∧ Blk w9 gb (op4 3 x2 x3 x4) 33 from fun w9 hb9 hk9 =>
              ⟨⟨hk9.blk HP8.out.b0 (by simp), hb9⟩, ⟨(HD8.out.put HP8.out.b1 (by omega) hk9 (by decide) (by decide) (by decide)).mono (by omega), L8.out.frame hk9 (fun b hb xs hB => by simp at hb; subst hb; exact blk_neT HP8.out.b1 hB (by decide)), by rw [← HLE.out.1, List.length_map], HLE.out.2⟩, hk9.blk HB8.out (by have h1 := HGB.out; simp; omega)⟩)
            go_wp2_with (first
              | refine load_blk rfl 27 (.tmp 15) rfl g12 rfl 27 _ _ B8.out Try.underlying27 rfl infoList ?_
              | (refine store_blk rfl 27 (.tmp 7) (.tmp 128) rfl (w.heap.size + 1) rfl 27 _ (ls4 room (asked9 + tl.length) full (.slice b5 ln5 c5)) rfl HP8.out.b1 rfl infoList (by intro x hx; simp at hx; rcases hx with rfl | rfl | rfl | rfl <;> rfl) ?_; intro w10 hb10 hk10; have HFI := hx (HWA.out w10 hb10 hk10); clear hb10 hk10))
            go_roundw
            case rel => exact ⟨kk + 1, n10, v10, now9 + 1, no10, asked9 + tl.length, h10, s10, f10, b5, ln5, c5, by omega, by go_num, HFI.out.1, HFI.out.2.1, HFI.out.2.2⟩
            case measure => simp [intOf] <;> omega
          · rcases (show ¬ (kk : Int) < x4 ∨ ((kk : Int) < x4 ∧ ¬ (kk : Int) < 60) by omega) with hz1 | ⟨hz1, hz2⟩
            all_goals
              clear hzz
              go_upto_region 31 with fail
              clear o2 o3
              have HSK := hx (fun (W1 : World) (hk : Kept [] w9 W1) => show W1.cell? ⟨w.heap.size + 1, 0, none⟩ = some (.int .i64 room) ∧ W1.cell? ⟨w.heap.size + 1, 1, none⟩ = some (.int .i64 asked9) ∧ W1.cell? ⟨w.heap.size + 1, 2, none⟩ = some (.int .i64 full) ∧ W1.cell? ⟨w.heap.size + 1, 3, none⟩ = some (.slice b9 ln9 c9) ∧ W1.cell? ⟨gb, 1, none⟩ = some (.int .u32 x2) ∧ Hx (Kept [] w9 W1) from ⟨kept_cell hk (HP9.out.b1.cell (i := 0) rfl), kept_cell hk (HP9.out.b1.cell (i := 1) rfl), kept_cell hk (HP9.out.b1.cell (i := 2) rfl), kept_cell hk (HP9.out.b1.cell (i := 3) rfl), kept_cell hk (HB9.out.cell (i := 1) rfl), hx hk⟩)
              have HNB := hx (show i * 4000 + 4000 ≤ 1000000 by have h1 := HI.out; omega)
              have HSM := hx (fun (W1 : World) (hs : W1.cell? ⟨w.heap.size + 1, 0, none⟩ = some (.int .i64 room) ∧ W1.cell? ⟨w.heap.size + 1, 1, none⟩ = some (.int .i64 asked9) ∧ W1.cell? ⟨w.heap.size + 1, 2, none⟩ = some (.int .i64 full) ∧ W1.cell? ⟨w.heap.size + 1, 3, none⟩ = some (.slice b9 ln9 c9) ∧ W1.cell? ⟨gb, 1, none⟩ = some (.int .u32 x2) ∧ Hx (Kept [] w9 W1)) => (nsame_any b9 ln9 c9 (HD9.out.pn.kept hs.2.2.2.2.2.out) (by have h1 := HNB.out; omega) (HD9.out.ls.kept hs.2.2.2.2.2.out) HD9.out.hn).mono (R' := fun e W2 => e = .returned (.bool true) ∧ (W2.cell? ⟨w.heap.size + 1, 0, none⟩ = some (.int .i64 room) ∧ W2.cell? ⟨w.heap.size + 1, 1, none⟩ = some (.int .i64 asked9) ∧ W2.cell? ⟨w.heap.size + 1, 2, none⟩ = some (.int .i64 full) ∧ W2.cell? ⟨w.heap.size + 1, 3, none⟩ = some (.slice b9 ln9 c9) ∧ W2.cell? ⟨gb, 1, none⟩ = some (.int .u32 x2) ∧ Hx (Kept [] w9 W2))) (fun e W2 ⟨h1, h2⟩ => ⟨h1, HSK.out W2 (hs.2.2.2.2.2.out.trans0 h2)⟩))
              have HHA := hx (fun (W1 : World) (hs : W1.cell? ⟨w.heap.size + 1, 0, none⟩ = some (.int .i64 room) ∧ W1.cell? ⟨w.heap.size + 1, 1, none⟩ = some (.int .i64 asked9) ∧ W1.cell? ⟨w.heap.size + 1, 2, none⟩ = some (.int .i64 full) ∧ W1.cell? ⟨w.heap.size + 1, 3, none⟩ = some (.slice b9 ln9 c9) ∧ W1.cell? ⟨gb, 1, none⟩ = some (.int .u32 x2) ∧ Hx (Kept [] w9 W1)) => (phas_any (HD9.out.pn.kept hs.2.2.2.2.2.out) (by have h1 := HNB.out; omega) x2).mono (R' := fun e W2 => e = .returned (.bool (hasN x2 (s9.map (itN now9 f9)))) ∧ (W2.cell? ⟨w.heap.size + 1, 0, none⟩ = some (.int .i64 room) ∧ W2.cell? ⟨w.heap.size + 1, 1, none⟩ = some (.int .i64 asked9) ∧ W2.cell? ⟨w.heap.size + 1, 2, none⟩ = some (.int .i64 full) ∧ W2.cell? ⟨w.heap.size + 1, 3, none⟩ = some (.slice b9 ln9 c9) ∧ W2.cell? ⟨gb, 1, none⟩ = some (.int .u32 x2) ∧ Hx (Kept [] w9 W2))) (fun e W2 ⟨h1, h2⟩ => ⟨h1, HSK.out W2 (hs.2.2.2.2.2.out.trans0 h2)⟩))
              have HRH := hx (fun (W1 : World) (hs : W1.cell? ⟨w.heap.size + 1, 0, none⟩ = some (.int .i64 room) ∧ W1.cell? ⟨w.heap.size + 1, 1, none⟩ = some (.int .i64 asked9) ∧ W1.cell? ⟨w.heap.size + 1, 2, none⟩ = some (.int .i64 full) ∧ W1.cell? ⟨w.heap.size + 1, 3, none⟩ = some (.slice b9 ln9 c9) ∧ W1.cell? ⟨gb, 1, none⟩ = some (.int .u32 x2) ∧ Hx (Kept [] w9 W1)) => (rhas_any b9 ln9 c9 (s9.map (itN now9 f9)) room asked9 full x2 W1 (HD9.out.ls.kept hs.2.2.2.2.2.out) (by rw [List.length_map]; exact HD9.out.hn) (by have h1 := HD9.out.pn.hr; have h2 := HD9.out.pn.r64; have h3 := HD9.out.hn; omega)).mono (R' := fun e W2 => e = .returned (.bool (hasN x2 (s9.map (itN now9 f9)))) ∧ (W2.cell? ⟨w.heap.size + 1, 0, none⟩ = some (.int .i64 room) ∧ W2.cell? ⟨w.heap.size + 1, 1, none⟩ = some (.int .i64 asked9) ∧ W2.cell? ⟨w.heap.size + 1, 2, none⟩ = some (.int .i64 full) ∧ W2.cell? ⟨w.heap.size + 1, 3, none⟩ = some (.slice b9 ln9 c9) ∧ W2.cell? ⟨gb, 1, none⟩ = some (.int .u32 x2) ∧ Hx (Kept [] w9 W2))) (fun e W2 ⟨h1, h2⟩ => ⟨h1, HSK.out W2 (hs.2.2.2.2.2.out.trans0 h2)⟩))
              generalize hasN x2 (s9.map (itN now9 f9)) = bh at *
              have hSS := HSK.out w9 (Kept.refl [] w9)
              go_region_held3 (fun W1 => W1.cell? ⟨w.heap.size + 1, 0, none⟩ = some (.int .i64 room) ∧ W1.cell? ⟨w.heap.size + 1, 1, none⟩ = some (.int .i64 asked9) ∧ W1.cell? ⟨w.heap.size + 1, 2, none⟩ = some (.int .i64 full) ∧ W1.cell? ⟨w.heap.size + 1, 3, none⟩ = some (.slice b9 ln9 c9) ∧ W1.cell? ⟨gb, 1, none⟩ = some (.int .u32 x2) ∧ Hx (Kept [] w9 W1)) (first | exact hSS | exact HSK.out _ ((Kept.refl [] w9).drew) | assumption)
                (first | (go_at_call 21; refine (HSM.out _ (by first | exact hSS | assumption)).mono ?_; rintro e W2 ⟨rfl, hSS⟩) | (go_at_call 10; refine (HHA.out _ (by first | exact hSS | assumption)).mono ?_; rintro e W2 ⟨rfl, hSS⟩) | (go_at_call 8; refine (HRH.out _ (by first | exact hSS | assumption)).mono ?_; rintro e W2 ⟨rfl, hSS⟩))
              all_goals
                have HKF := hx hSS.2.2.2.2.2.out
                clear hSS HSM HHA HRH HSK
                go_wp2
                go_roundw
                case rel => exact ⟨i + 1, n9, v9, now9, no9, asked9, full, h9, s9, f9, b9, ln9, c9, by omega, by omega, by go_num, HP9.out.kept HKF.out, ⟨(HD9.out.pn.kept HKF.out).mono (by omega), HD9.out.ls.kept HKF.out, HD9.out.hn, HD9.out.hc⟩⟩
                case measure => simp [intOf] <;> omega
      have e0 : (x1 == 0) = false := by simpa using k0
      have e1 : (x1 == 1) = false := by simpa using k1
      have e2 : (x1 == 2) = false := by simpa using k2
      have e3 : (x1 == 3) = false := by simpa using k3
      clear k0 k1 k2 k3
      go_wp2
      go_roundw
      case rel => exact ⟨i + 1, n, v, now, no, asked, full, h, s, f, b, ln, c, by omega, by omega, by go_num, HP3.out, ⟨HD3.out.pn.mono (by omega), HD3.out.ls, HD3.out.hn, HD3.out.hc⟩⟩
      case measure => simp [intOf] <;> omega
    · rcases (show ¬ (i : Int) < (len : Int) ∨ ((i : Int) < (len : Int) ∧ ¬ (i : Int) < 60) by omega) with hz1 | ⟨hz1, hz2⟩
      all_goals
        clear hlt
        go_upto_region 33 with fail
        have cs0 := HBL.out.b1.cell (i := 0) (v := .int .i64 room) rfl
        have cs1 := HBL.out.b1.cell (i := 1) (v := .int .i64 asked) rfl
        have cs2 := HBL.out.b1.cell (i := 2) (v := .int .i64 full) rfl
        have cs3 := HBL.out.b1.cell (i := 3) (v := .slice b ln c) rfl
        have ct0 := HBL.out.b0.cell (i := 0) rfl
        have ct1 := HBL.out.b0.cell (i := 1) rfl
        have ct2 := HBL.out.b0.cell (i := 2) rfl
        have ct3 := HBL.out.b0.cell (i := 3) rfl
        have hf := HBL.out.b0.free
        have BF := hx (show Blk _ (w.heap.size) (ls4 room asked full (.slice b ln c)) 27 from ((((HBL.out.b0.set 0 (.int .i64 room)).set 1 (.int .i64 asked)).set 2 (.int .i64 full)).set 3 (.slice b ln c)).drew)
        have KW := (((((Kept.refl [w.heap.size] wr).setCell (p := ⟨w.heap.size, 0, none⟩) (.inl (by simp)) (.int .i64 room)).setCell (p := ⟨w.heap.size, 1, none⟩) (.inl (by simp)) (.int .i64 asked)).setCell (p := ⟨w.heap.size, 2, none⟩) (.inl (by simp)) (.int .i64 full)).setCell (p := ⟨w.heap.size, 3, none⟩) (.inl (by simp)) (.slice b ln c)).drew
        have DF := hx (show Both w _ p q mb n v room now no asked full h s f 240000 b ln c from ⟨(HD.out.pn.put HBL.out.b0 (Nat.le_refl _) KW (by decide) (by decide) (by decide)).mono (by omega), HD.out.ls.frame KW (fun b hb xs hB => by simp at hb; subst hb; exact blk_neT HBL.out.b0 hB (by decide)), HD.out.hn, HD.out.hc⟩)
        clear KW
        go_region
        go_wp2_with fail
        refine bodyPost_ret (ret_tct rfl _ w.heap.size _ _ _ _ _ rfl rfl rfl BF.out Try.underlying27 rfl infoList) rfl ?_
        rw [← HPP.out]
        exact .inr ⟨HG.out.1, HG.out.2, p, q, mb, n, v, now, no, asked, full, h, s, f, b, ln, c, rfl, DF.out⟩
end Go.Proofs.Yteobkcmfpmolmaa
