import Derived.Test.YtpedenaaiinakaaWireO
namespace Go.Proofs.Ytpedenaaiinakaa
open Go Go.RowKit
attribute [local go_sem ↓] exec_Dg
attribute [local go_sem] goodPtr_at rowAt_at
/-- Where the decoder stands: its result's block B, its reader's r, the bytes from i on not read yet. -/
structure DecI (w0 w : World) (B r : Nat) (o : List UInt8) (i : Nat) : Prop where
  res : Blk w B (dgl dg0 none 0) 25
  hB : B = w0.heap.size
  rdr : Rdr w r (o.drop i)
  kept : Kept [] w0 w
  hr : B < r
structure DecJ (w0 w : World) (B r : Nat) (o : List UInt8) (i d : Nat) (cs : List Value) : Prop where
  I : DecI w0 w B r o i
  blk : Blk w d cs 25
  hd : r < d
theorem DecI.take {w0 w w' : World} {B r : Nat} {o : List UInt8} {i n j : Nat} (h : DecI w0 w B r o i) (hr : Rdr w' r ((o.drop i).drop n)) (hk : Kept [r] w w') (hj : i + n = j) : DecI w0 w' B r o j :=
  ⟨hk.blk h.res (by have := h.hr; simp; omega), h.hB, by rw [← hj]; simpa using hr, h.kept.trans hk (fun _ h => h) (fun x hx => by simp at hx; have := h.hB; have := h.hr; right; omega), h.hr⟩
theorem takeI (w0 w : World) (B r : Nat) (o : List UInt8) (i n j x : Nat) (N : Int) (h : DecI w0 w B r o i) (hx : Hid (fld o i n = x)) (hn : i + n ≤ o.length) (h8 : n ≤ 8) (h1 : 1 ≤ n) (hN : N = (n : Int)) (hj : i + n = j) :
    Calls Try.prog 33 #[.pointer (some ⟨r, 0, none⟩), .int .i64 N] w fun e w' => e = .returned (.int .u64 (x : Nat)) ∧ DecI w0 w' B r o j := by
  refine (take_any r (o.drop i) n N x w h.rdr (by simp; omega) h8 h1 hN hx.out).mono ?_
  rintro e w' ⟨rfl, h2, h3⟩
  exact ⟨rfl, h.take h2 h3 hj⟩
theorem takeJ (w0 w : World) (B r : Nat) (o : List UInt8) (i n j x d : Nat) (cs : List Value) (N : Int) (h : DecJ w0 w B r o i d cs) (hx : Hid (fld o i n = x)) (hn : i + n ≤ o.length) (h8 : n ≤ 8) (h1 : 1 ≤ n) (hN : N = (n : Int)) (hj : i + n = j) :
    Calls Try.prog 33 #[.pointer (some ⟨r, 0, none⟩), .int .i64 N] w fun e w' => e = .returned (.int .u64 (x : Nat)) ∧ DecJ w0 w' B r o j d cs := by
  refine (take_any r (o.drop i) n N x w h.I.rdr (by simp; omega) h8 h1 hN hx.out).mono ?_
  rintro e w' ⟨rfl, h2, h3⟩
  exact ⟨rfl, ⟨h.I.take h2 h3 hj, h3.blk h.blk (by have := h.hd; simp; omega), h.hd⟩⟩
theorem DecJ.set {w0 w : World} {B r : Nat} {o : List UInt8} {i d : Nat} {cs : List Value} (h : DecJ w0 w B r o i d cs) (hx : ∀ v ∈ cs, ∀ n, v ≠ .int .u8 n) (k : Nat) (u : Value) : DecJ w0 (w.setCell ⟨d, k, none⟩ u) B r o i d (cs.set k u) := by
  have hd := h.hd
  have hr := h.I.hr
  have hB := h.I.hB
  refine ⟨⟨h.I.res.set_ne (a := ⟨d, k, none⟩) (by simp; omega) u, hB, ?_, h.I.kept.setCell (.inr (by simp; omega)) u, hr⟩, h.blk.set k u, hd⟩
  obtain ⟨a, c, h1, h2⟩ := h.I.rdr
  refine ⟨a, c, h1.set_ne (a := ⟨d, k, none⟩) (by simp; omega) u, Bts.kept1 (r := d) h2 ((Kept.refl _ _).setCell (.inl (by simp)) _) ?_⟩
  intro b off hab hl
  subst hab
  exact h2.ne_blk hl h.blk hx
def DecP (w : World) (s : Nat) (o : List UInt8) (e : Ending) (w' : World) : Prop :=
  ∃ d p c', e = .returned (.tuple #[.agg (dgl d p c').toArray, .int .i64 (opE s o)]) ∧ d = (if opE s o = 0 then rdD o else dg0) ∧ Bts w' p d.data.length c' d.data ∧ Kept [] w w'
theorem decP_no {w w' : World} {s : Nat} {o : List UInt8} {n : Int} (h : opE s o = n) (hn : ¬ n = 0) (hk : Kept [] w w') : DecP w s o (.returned (.tuple #[.agg (dgl dg0 none 0).toArray, .int .i64 n])) w' :=
  ⟨dg0, none, 0, by rw [h], by rw [h, if_neg hn], bts_none _, hk⟩
theorem dgl_one (d : Dg) (p : Option Addr) (c : Nat) : ∀ v ∈ dgl d p c, v.oneCell' = true := by
  intro v hv
  simp only [dgl, List.mem_cons, List.not_mem_nil, or_false] at hv
  rcases hv with rfl | rfl | rfl | rfl | rfl | rfl | rfl | rfl | rfl | rfl | rfl <;> rfl
theorem kept_res {w w1 w2 : World} (h : Kept [] w w1) (hk : Kept [w.heap.size] w1 w2) : Kept [] w w2 := h.trans hk (fun _ h => h) (fun x h => by simp at h; subst h; exact .inr (Nat.le_refl _))
set_option maxRecDepth 100000 in
set_option maxHeartbeats 6400000 in
theorem decode_body (t s : Nat) (a : Option Addr) (n m c : Nat) (o : List UInt8) (s0 s1 s2 s3 : UInt8) (w : World) (hl : Bts w a n c (o ++ [s0, s1, s2, s3])) (hm : o.length = m) (hn : n = m + 4) (h1 : 29 ≤ m) (h2 : m ≤ 1396) (ht : Blk w t (tabk 256) 60) (hs : s < 4294967296) (hok : beg [s3, s2, s1, s0] = mor 0 o) :
    Calls Try.prog 19 #[.pointer (some ⟨t, 0, none⟩), .int .u32 s, .slice a n c] w (DecP w s o) := by
  have hz := zeroDg
  have g1 : ¬ (1400 : Int) < (n : Int) := by omega
  have g2 : ¬ (n : Int) < 33 := by omega
  have hb := blkZ w
  have hk0 : Kept [] w (w.alloc (.cells #[.int .i64 0, .int .u32 0, .int .u32 0, .int .i64 0, .int .u32 0, .int .u32 0, .int .u32 0, .int .i64 0, .int .i64 0, .int .i64 0, .slice none 0 0] 25)) := (Kept.refl _ _).alloc _
  have ho : ∀ w1, Kept [] w w1 → Calls Try.prog 32 #[.pointer (some ⟨t, 0, none⟩), .slice a n c] w1 fun e w' => ∃ v, e = .returned (.tuple #[v, .int .i64 0]) ∧ OwnB w' w1.heap.size v m o ∧ Kept [] w1 w' := by
    intro w1 hk
    subst hn
    exact open_good t a m c o s0 s1 s2 s3 _ (hl.kept hk) hm (by omega) (hk.blk ht (by simp)) hok
  have ho := Lib.hid ho
  have hb' := Lib.hid hb
  have hm' := Lib.hid hm
  generalize hx0 : fld o 0 2 = x0
  generalize hx1 : fld o 2 1 = x1
  generalize hx2 : fld o 3 1 = x2
  generalize hx3 : fld o 4 4 = x3
  have l0 : x0 < 65536 := by have := fld_lt o 0 2; omega
  have l1 : x1 < 256 := by have := fld_lt o 2 1; omega
  have l2 : x2 < 256 := by have := fld_lt o 3 1; omega
  have l3 : x3 < 4294967296 := by have := fld_lt o 4 4; omega
  have HX0 := Lib.hid hx0
  have HX1 := Lib.hid hx1
  have HX2 := Lib.hid hx2
  have HX3 := Lib.hid hx3
  clear hb hl hm ht hok hn hx0 hx1 hx2 hx3
  go_enter Try.func19, Try.ntmps19
  go_wp2_with fail
  refine (ho.out _ hk0).mono ?_
  rintro e w1 ⟨v, rfl, o1, hk1⟩
  obtain ⟨a1, c1, rfl, hbt⟩ := o1.bts
  have hb1 := hk1.blk hb'.out (by simp)
  have hk01 := hk0.trans0 hk1
  have hI : DecI w (w1.alloc (.cells #[.slice a1 m c1] 69)) w.heap.size w1.heap.size o 0 :=
    ⟨hb1.alloc _, rfl, ⟨a1, c1, by rw [List.drop_zero, hm'.out]; exact Blk.new' _ _ _, by rw [List.drop_zero, hm'.out]; exact hbt.kept ((Kept.refl _ _).alloc _)⟩, hk01.alloc _, hb1.lt⟩
  clear hk0 hk1 hbt hb1 hk01 o1
  go_wp2_with fail
  refine (takeI w _ w.heap.size w1.heap.size o 0 2 2 x0 _ hI HX0 (by have := hm'.out; omega) (by omega) (by omega) rfl rfl).mono ?_
  rintro e w2 ⟨rfl, hI2⟩
  clear hI
  go_wp2_with fail
  refine (takeI w _ w.heap.size w1.heap.size o 2 1 3 x1 _ hI2 HX1 (by have := hm'.out; omega) (by omega) (by omega) rfl rfl).mono ?_
  rintro e w3 ⟨rfl, hI3⟩
  clear hI2
  go_wp2_with fail
  refine (takeI w _ w.heap.size w1.heap.size o 3 1 4 x2 _ hI3 HX2 (by have := hm'.out; omega) (by omega) (by omega) rfl rfl).mono ?_
  rintro e w4 ⟨rfl, hI4⟩
  clear hI3
  go_wp2_with fail
  refine (takeI w _ w.heap.size w1.heap.size o 4 4 8 x3 _ hI4 HX3 (by have := hm'.out; omega) (by omega) (by omega) rfl rfl).mono ?_
  rintro e w5 ⟨rfl, hI5⟩
  clear hI4
  have hres := hI5.res
  rcases (show ¬ x0 = 17003 ∨ (x0 = 17003 ∧ ¬ x3 = s) ∨ (x0 = 17003 ∧ x3 = s) by omega) with h0 | ⟨h0, h3⟩ | ⟨h0, h3⟩
  · have HE := Lib.hid (show opE s o = 71 by unfold opE; rw [HX0.out, HX3.out]; exact if_pos (.inl h0))
    have b0 : ((x0 : Int) != 17003) = true := by rw [bne_iff_ne]; omega
    clear h0
    go_wp2_with (refine store_blk rfl 25 (.tmp 6) (.tmp 56) rfl w.heap.size rfl 25 _ (dgl dg0 none 0) rfl (hres.alloc _) rfl infoDg (by decide) ?_)
    intro w6 hb6 hk6
    go_wp2
    exact bodyPost_ret (ret_blk2 rfl _ w.heap.size _ _ (.int .i64 71) _ rfl rfl hb6 Try.underlying25 rfl infoDg) rfl (decP_no HE.out (by omega) ((hI5.kept.alloc _).trans hk6 (fun _ h => h) (fun x h => by simp at h; subst h; exact .inr (Nat.le_refl _))))
  · have HE := Lib.hid (show opE s o = 71 by unfold opE; rw [HX0.out, HX3.out]; exact if_pos (.inr h3))
    have b0 : ((x0 : Int) != 17003) = false := by rw [h0]; rfl
    have b3 : ((x3 : Int) != (s : Int)) = true := by rw [bne_iff_ne]; omega
    clear h0 h3
    go_wp2_with (refine store_blk rfl 25 (.tmp 6) (.tmp 56) rfl w.heap.size rfl 25 _ (dgl dg0 none 0) rfl (hres.alloc _) rfl infoDg (by decide) ?_)
    intro w6 hb6 hk6
    go_wp2
    exact bodyPost_ret (ret_blk2 rfl _ w.heap.size _ _ (.int .i64 71) _ rfl rfl hb6 Try.underlying25 rfl infoDg) rfl (decP_no HE.out (by omega) ((hI5.kept.alloc _).trans hk6 (fun _ h => h) (fun x h => by simp at h; subst h; exact .inr (Nat.le_refl _))))
  · have HE := Lib.hid (show opE s o = if ¬ fld o 27 2 = o.length - 29 then 73 else chk (rdD o) by unfold opE; rw [HX0.out, HX3.out]; exact if_neg (by omega))
    have b0 : ((x0 : Int) != 17003) = false := by rw [h0]; rfl
    have b3 : ((x3 : Int) != (s : Int)) = false := by rw [h3]; simp
    have H3 := Lib.hid h3
    clear h0 h3
    generalize hx4 : fld o 8 4 = x4
    have l4 : x4 < 4294967296 := by have := fld_lt o 8 4; omega
    have HX4 := Lib.hid hx4
    clear hx4
    generalize hx5 : fld o 12 4 = x5
    have l5 : x5 < 4294967296 := by have := fld_lt o 12 4; omega
    have HX5 := Lib.hid hx5
    clear hx5
    generalize hx6 : fld o 16 4 = x6
    have l6 : x6 < 4294967296 := by have := fld_lt o 16 4; omega
    have HX6 := Lib.hid hx6
    clear hx6
    generalize hx7 : fld o 20 4 = x7
    have l7 : x7 < 4294967296 := by have := fld_lt o 20 4; omega
    have HX7 := Lib.hid hx7
    clear hx7
    generalize hx8 : fld o 24 1 = x8
    have l8 : x8 < 256 := by have := fld_lt o 24 1; omega
    have HX8 := Lib.hid hx8
    clear hx8
    generalize hx9 : fld o 25 1 = x9
    have l9 : x9 < 256 := by have := fld_lt o 25 1; omega
    have HX9 := Lib.hid hx9
    clear hx9
    generalize hx10 : fld o 26 1 = x10
    have l10 : x10 < 256 := by have := fld_lt o 26 1; omega
    have HX10 := Lib.hid hx10
    clear hx10
    generalize hx11 : fld o 27 2 = x11
    have l11 : x11 < 65536 := by have := fld_lt o 27 2; omega
    have HX11 := Lib.hid hx11
    clear hx11
    have hJ5 : DecJ w (w5.alloc (.cells #[.int .i64 (x1 : Int), .int .u32 (x3 : Int), .int .u32 0, .int .i64 (x2 : Int), .int .u32 0, .int .u32 0, .int .u32 0, .int .i64 0, .int .i64 0, .int .i64 0, .slice none 0 0] 25)) w.heap.size w1.heap.size o 8 w5.heap.size [.int .i64 (x1 : Int), .int .u32 (x3 : Int), .int .u32 0, .int .i64 (x2 : Int), .int .u32 0, .int .u32 0, .int .u32 0, .int .i64 0, .int .i64 0, .int .i64 0, .slice none 0 0] := by
      obtain ⟨a2, c2, r1, r2⟩ := hI5.rdr
      exact ⟨⟨hI5.res.alloc _, rfl, ⟨a2, c2, r1.alloc _, r2.kept ((Kept.refl _ _).alloc _)⟩, hI5.kept.alloc _, hI5.hr⟩, Blk.new' _ _ _, r1.lt⟩
    clear hres hI5
    go_wp2_with fail
    refine (takeJ w _ w.heap.size w1.heap.size o 8 4 12 x4 _ _ _ hJ5 HX4 (by have := hm'.out; omega) (by omega) (by omega) rfl rfl).mono ?_
    rintro e w6 ⟨rfl, hJ6⟩
    clear hJ5
    go_wp2_with fail
    refine (takeJ w _ w.heap.size w1.heap.size o 12 4 16 x5 _ _ _ hJ6 HX5 (by have := hm'.out; omega) (by omega) (by omega) rfl rfl).mono ?_
    rintro e w7 ⟨rfl, hJ7⟩
    clear hJ6
    have k2 := hJ7.blk.cell (i := 2) rfl
    have k4 := hJ7.blk.cell (i := 4) rfl
    have hfr := hJ7.blk.free
    have hJ7s : DecJ w ((w7.setCell ⟨w5.heap.size, 2, none⟩ (.int .u32 (x4 : Int))).setCell ⟨w5.heap.size, 4, none⟩ (.int .u32 (x5 : Int))) w.heap.size w1.heap.size o 16 w5.heap.size [.int .i64 (x1 : Int), .int .u32 (x3 : Int), .int .u32 (x4 : Int), .int .i64 (x2 : Int), .int .u32 (x5 : Int), .int .u32 0, .int .u32 0, .int .i64 0, .int .i64 0, .int .i64 0, .slice none 0 0] := ((hJ7.set (by simp) 2 (.int .u32 (x4 : Int))).set (by simp) 4 (.int .u32 (x5 : Int)))
    clear hJ7
    go_wp2_with fail
    refine (takeJ w _ w.heap.size w1.heap.size o 16 4 20 x6 _ _ _ hJ7s HX6 (by have := hm'.out; omega) (by omega) (by omega) rfl rfl).mono ?_
    rintro e w8 ⟨rfl, hJ8⟩
    clear hJ7s
    go_wp2_with fail
    refine (takeJ w _ w.heap.size w1.heap.size o 20 4 24 x7 _ _ _ hJ8 HX7 (by have := hm'.out; omega) (by omega) (by omega) rfl rfl).mono ?_
    rintro e w9 ⟨rfl, hJ9⟩
    clear hJ8
    have k5 := hJ9.blk.cell (i := 5) rfl
    have k6 := hJ9.blk.cell (i := 6) rfl
    have hfr := hJ9.blk.free
    have hJ9s : DecJ w ((w9.setCell ⟨w5.heap.size, 5, none⟩ (.int .u32 (x6 : Int))).setCell ⟨w5.heap.size, 6, none⟩ (.int .u32 (x7 : Int))) w.heap.size w1.heap.size o 24 w5.heap.size [.int .i64 (x1 : Int), .int .u32 (x3 : Int), .int .u32 (x4 : Int), .int .i64 (x2 : Int), .int .u32 (x5 : Int), .int .u32 (x6 : Int), .int .u32 (x7 : Int), .int .i64 0, .int .i64 0, .int .i64 0, .slice none 0 0] := ((hJ9.set (by simp) 5 (.int .u32 (x6 : Int))).set (by simp) 6 (.int .u32 (x7 : Int)))
    clear hJ9
    go_wp2_with fail
    refine (takeJ w _ w.heap.size w1.heap.size o 24 1 25 x8 _ _ _ hJ9s HX8 (by have := hm'.out; omega) (by omega) (by omega) rfl rfl).mono ?_
    rintro e w10 ⟨rfl, hJ10⟩
    clear hJ9s
    go_wp2_with fail
    refine (takeJ w _ w.heap.size w1.heap.size o 25 1 26 x9 _ _ _ hJ10 HX9 (by have := hm'.out; omega) (by omega) (by omega) rfl rfl).mono ?_
    rintro e w11 ⟨rfl, hJ11⟩
    clear hJ10
    go_wp2_with fail
    refine (takeJ w _ w.heap.size w1.heap.size o 26 1 27 x10 _ _ _ hJ11 HX10 (by have := hm'.out; omega) (by omega) (by omega) rfl rfl).mono ?_
    rintro e w12 ⟨rfl, hJ12⟩
    clear hJ11
    have k7 := hJ12.blk.cell (i := 7) rfl
    have k8 := hJ12.blk.cell (i := 8) rfl
    have k9 := hJ12.blk.cell (i := 9) rfl
    have hfr := hJ12.blk.free
    have hJ12s : DecJ w (((w12.setCell ⟨w5.heap.size, 7, none⟩ (.int .i64 (x8 : Int))).setCell ⟨w5.heap.size, 8, none⟩ (.int .i64 (x9 : Int))).setCell ⟨w5.heap.size, 9, none⟩ (.int .i64 (x10 : Int))) w.heap.size w1.heap.size o 27 w5.heap.size [.int .i64 (x1 : Int), .int .u32 (x3 : Int), .int .u32 (x4 : Int), .int .i64 (x2 : Int), .int .u32 (x5 : Int), .int .u32 (x6 : Int), .int .u32 (x7 : Int), .int .i64 (x8 : Int), .int .i64 (x9 : Int), .int .i64 (x10 : Int), .slice none 0 0] := (((hJ12.set (by simp) 7 (.int .i64 (x8 : Int))).set (by simp) 8 (.int .i64 (x9 : Int))).set (by simp) 9 (.int .i64 (x10 : Int)))
    clear hJ12
    go_wp2_with fail
    refine (takeJ w _ w.heap.size w1.heap.size o 27 2 29 x11 _ _ _ hJ12s HX11 (by have := hm'.out; omega) (by omega) (by omega) rfl rfl).mono ?_
    rintro e w13 ⟨rfl, hJ13⟩
    clear hJ12s
    obtain ⟨a2, c2, r1, r2⟩ := hJ13.I.rdr
    obtain ⟨k, hk⟩ : ∃ k, (o.drop 29).length = k := ⟨_, rfl⟩
    rw [hk] at r1 r2
    have hkm : k = m - 29 := by rw [← hk, List.length_drop, hm'.out]
    have q1 := r1.cell (i := 0) rfl
    have q2 := fun o => (r1.alloc o).cell (i := 0) rfl
    have hle := r2.hle
    have htop := r2.htop
    unfold maxLen at htop
    have hres := hJ13.I.res
    have hk13 := hJ13.I.kept
    have hbd := hJ13.blk
    have hrd := hJ13.hd
    have hlt13 := hbd.lt
    have hr13 := hJ13.I.hr
    have Hk := Lib.hid hk
    have Hkm := Lib.hid hkm
    clear hk
    by_cases h11 : x11 = k
    · have HF := Lib.hid (show opE s o = chk (rdD o) by rw [HE.out, HX11.out, hm'.out]; exact if_neg (by omega))
      have b11 : ((x11 : Int) != (k : Int)) = false := by rw [h11]; simp
      clear h11 hJ13 r1 hkm
      go_wp2_with (at_builtin; refine wpList_appB rfl (.tmp 96) (.tmp 100) rfl w13.heap.size _ 0 [] rfl ?_ a2 k c2 (o.drop 29) rfl ?_ ?_ ?_ ?_)
      · exact own_empty (w := w13) rfl (Nat.le_refl _)
      · exact r2.kept ((Kept.refl _ _).alloc _)
      · have := Hkm.out; omega
      · simp
      intro v' w14 o14 bl14
      have hk14 : Kept [] w13 w14 := ((Kept.refl _ _).alloc _).below bl14 (Nat.le_refl _)
      try simp only [Nat.zero_add, List.nil_append] at o14
      obtain ⟨a3, c3, rfl, hb3⟩ := o14.bts
      have hd14 := hk14.blk hbd (by simp)
      have hres14 := hk14.blk hres (by simp)
      have hk014 := hk13.trans0 hk14
      clear o14 bl14 hbd hres q1 q2 r2
      have cd := hd14.cell (i := 10) rfl
      have fd := hd14.free 10
      have hne : w5.heap.size ≠ w.heap.size := by omega
      have hset := hd14.set 10 (.slice a3 k c3)
      have hD : dgl (rdD o) a3 c3 = [.int .i64 (x1 : Int), .int .u32 (x3 : Int), .int .u32 (x4 : Int), .int .i64 (x2 : Int), .int .u32 (x5 : Int), .int .u32 (x6 : Int), .int .u32 (x7 : Int), .int .i64 (x8 : Int), .int .i64 (x9 : Int), .int .i64 (x10 : Int), .slice a3 k c3] := by
        unfold dgl rdD
        simp only [HX1.out, HX2.out, HX3.out, HX4.out, HX5.out, HX6.out, HX7.out, HX8.out, HX9.out, HX10.out, Hk.out]
      have hset' : Blk (w14.setCell ⟨w5.heap.size, 10, none⟩ (.slice a3 k c3)) w5.heap.size (dgl (rdD o) a3 c3) 25 := by rw [hD]; exact hset
      have hb15 : Bts (w14.setCell ⟨w5.heap.size, 10, none⟩ (.slice a3 k c3)) a3 (rdD o).data.length c3 (rdD o).data := by
        have e : (rdD o).data = o.drop 29 := rfl
        rw [e, Hk.out]
        refine hb3.kept1 (r := w5.heap.size) ((Kept.refl _ _).setCell (.inl (by simp)) _) ?_
        intro b off hab hl
        subst hab
        exact hb3.ne_blk hl hd14 (by simp)
      have hres15 := hres14.set_ne (a := ⟨w5.heap.size, 10, none⟩) (by simp; omega) (.slice a3 k c3)
      have hk15 : Kept [] w (w14.setCell ⟨w5.heap.size, 10, none⟩ (.slice a3 k c3)) := hk014.setCell (.inr (by simp; omega)) _
      have hrow := hset'.row
      have hhas : hasRow (w14.setCell ⟨w5.heap.size, 10, none⟩ (.slice a3 k c3)) w5.heap.size 11 = true := hset'.has
      have HC := Lib.hid (fun w' (hk : Kept [] (w14.setCell ⟨w5.heap.size, 10, none⟩ (.slice a3 k c3)) w') => check_any (rdD o) a3 _ c3 w' (hb15.kept hk))
      have HS := Lib.hid hset'
      have Hres := Lib.hid hres15
      have Hk15 := Lib.hid hk15
      have Hb15 := Lib.hid hb15
      clear hset hset' hD hb15 hres15 hk15 hres14 hk014 hd14 hb3 hk13
      go_wp2_with fail
      refine (HC.out _ (Kept.refl _ _)).mono ?_
      rintro e w16 ⟨rfl, hk16⟩
      have hres16 := hk16.blk Hres.out (by simp)
      have hd16 := hk16.blk HS.out (by simp)
      have hk016 := Hk15.out.trans0 hk16
      clear hrow hhas
      by_cases hc : chk (rdD o) = 0
      · have bc : (chk (rdD o) != 0) = false := by rw [hc]; rfl
        have hHF := Lib.hid (HF.out.trans hc)
        have hrow := hd16.row
        have hhas : hasRow w16 w5.heap.size 11 = true := hd16.has
        have Hd16 := Lib.hid hd16
        have Hk16 := Lib.hid hk16
        clear hd16 hk16 hc
        go_wp2_with (refine store_blk rfl 25 (.tmp 6) (.tmp 109) rfl w.heap.size rfl 25 _ (dgl (rdD o) a3 c3) rfl hres16 rfl infoDg (dgl_one _ _ _) ?_)
        intro w17 hb17 hk17
        clear hrow hhas
        go_wp2
        refine bodyPost_ret (ret_blk2 rfl _ w.heap.size _ _ (.int .i64 0) _ rfl rfl hb17 Try.underlying25 rfl infoDg) rfl ⟨rdD o, a3, c3, by rw [hHF.out], by rw [hHF.out]; rfl, ?_, kept_res hk016 hk17⟩
        refine (Hb15.out.kept Hk16.out).kept1 hk17 ?_
        intro b off hab hl
        subst hab
        exact (Hb15.out.kept Hk16.out).ne_blk hl hres16 (by simp [dgl, dg0])
      · have bc : (chk (rdD o) != 0) = true := by rw [bne_iff_ne]; exact hc
        have hc' := Lib.hid hc
        clear hc
        go_wp2_with (refine store_blk rfl 25 (.tmp 6) (.tmp 107) rfl w.heap.size rfl 25 _ (dgl dg0 none 0) rfl hres16 rfl infoDg (by decide) ?_)
        intro w17 hb17 hk17
        go_wp2
        exact bodyPost_ret (ret_blk2 rfl _ w.heap.size _ _ (.int .i64 (chk (rdD o))) _ rfl rfl hb17 Try.underlying25 rfl infoDg) rfl (decP_no HF.out hc'.out (kept_res hk016 hk17))
    · have HF := Lib.hid (show opE s o = 73 by rw [HE.out, HX11.out, hm'.out]; exact if_pos (by omega))
      have b11 : ((x11 : Int) != (k : Int)) = true := by rw [bne_iff_ne]; omega
      clear h11 hJ13
      go_wp2_with (refine store_blk rfl 25 (.tmp 6) (.tmp 95) rfl w.heap.size rfl 25 _ (dgl dg0 none 0) rfl hres rfl infoDg (by decide) ?_)
      intro w14 hb6 hk6
      go_wp2
      exact bodyPost_ret (ret_blk2 rfl _ w.heap.size _ _ (.int .i64 73) _ rfl rfl hb6 Try.underlying25 rfl infoDg) rfl (decP_no HF.out (by omega) (kept_res hk13 hk6))
end Go.Proofs.Ytpedenaaiinakaa
