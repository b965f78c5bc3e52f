import Derived.Test.YtpedenaaiinakaaWireQ
import Derived.Deep.RegionHeld3
namespace Go.Proofs.Ytpedenaaiinakaa
open Go Go.RowKit
attribute [local go_sem ↓] exec_Dg
attribute [local go_sem] goodPtr_at rowAt_at
theorem fld_one (o : List UInt8) (i : Nat) (h : i < o.length) : fld o i 1 = o[i].toNat := by
  unfold fld
  rw [List.take_one, List.head?_drop, List.getElem?_eq_getElem h]
  simp [beg]
theorem fld_two (o : List UInt8) (i : Nat) (h : i + 1 < o.length) : fld o i 2 = fld o i 1 * 256 + fld o (i + 1) 1 := by
  rw [fld_one o i (by omega), fld_one o (i + 1) h]
  have e : o.drop i = o[i] :: o[i + 1] :: o.drop (i + 1 + 1) := by rw [List.drop_eq_getElem_cons (i := i) (by omega), List.drop_eq_getElem_cons (i := i + 1) h]
  show beg ((o.drop i).take 2) = _
  rw [e]
  show (0 * 256 + o[i].toNat) * 256 + o[i + 1].toNat = _
  omega
theorem Bts.fldc {w : World} {b off n c : Nat} {l : List UInt8} (h : Bts w (Option.some ⟨b, off, none⟩) n c l) (i x : Nat) (hi : i < l.length) (hx : Hid (fld l i 1 = x)) : w.cell? ⟨b, off + i, none⟩ = Option.some (.int .u8 (x : Int)) := by
  rw [h.at i hi, ← fld_one l i hi, hx.out]
theorem rdecode_long (s : Nat) (a : Option Addr) (n c : Nat) (w : World) (h : 1400 < n) :
    Calls Try.prog 20 #[.int .u32 s, .slice a n c] w fun e w' => e = .returned (.tuple #[.agg (dgl dg0 none 0).toArray, .int .i64 2]) ∧ Kept [] w w' := by
  have hz := zeroDg
  have h1 : (1400 : Int) < (n : Int) := by omega
  have hb := blkZ w
  go_enter Try.func20, Try.ntmps20
  go_wp2
  exact bodyPost_ret (ret_blk2 rfl _ w.heap.size _ _ _ _ rfl rfl hb Try.underlying25 rfl infoDg) rfl ⟨rfl, (Kept.refl _ _).alloc _⟩
set_option maxRecDepth 100000 in
set_option maxHeartbeats 800000 in
theorem rdecode_short (s : Nat) (a : Option Addr) (n c : Nat) (w : World) (h : n < 33) :
    Calls Try.prog 20 #[.int .u32 s, .slice a n c] w fun e w' => e = .returned (.tuple #[.agg (dgl dg0 none 0).toArray, .int .i64 70]) ∧ Kept [] w w' := by
  have hz := zeroDg
  have h1 : ¬ (1400 : Int) < (n : Int) := by omega
  have h2 : (n : Int) < 33 := by omega
  have hb := blkZ w
  go_enter Try.func20, Try.ntmps20
  go_wp2
  exact bodyPost_ret (ret_blk2 rfl _ w.heap.size _ _ _ _ rfl rfl hb Try.underlying25 rfl infoDg) rfl ⟨rfl, (Kept.refl _ _).alloc _⟩
set_option maxRecDepth 100000 in
set_option maxHeartbeats 800000 in
theorem rdecode_sum (s : Nat) (a : Option Addr) (n m c : Nat) (o sg : List UInt8) (w : World) (hl : Bts w a n c (o ++ sg)) (hm : o.length = m) (h4 : sg.length = 4) (hn : n = m + 4) (h1 : 29 ≤ m) (h2 : m ≤ 1396) (hne : ¬ sg = le4 (mor 0 o)) :
    Calls Try.prog 20 #[.int .u32 s, .slice a n c] w fun e w' => e = .returned (.tuple #[.agg (dgl dg0 none 0).toArray, .int .i64 20]) ∧ Kept [] w w' := by
  have hz := zeroDg
  have g1 : ¬ (1400 : Int) < (n : Int) := by omega
  have g2 : ¬ (n : Int) < 33 := by omega
  have hb := blkZ w
  have hk0 : Kept [] w (w.alloc (.cells #[.int .i64 0, .int .u32 0, .int .u32 0, .int .i64 0, .int .u32 0, .int .u32 0, .int .u32 0, .int .i64 0, .int .i64 0, .int .i64 0, .slice none 0 0] 25)) := (Kept.refl _ _).alloc _
  have ho : ∀ w1, Kept [] w w1 → Calls Try.prog 34 #[.slice a n c] w1 fun e w' => e = .returned (.tuple #[.slice none 0 0, .int .i64 20]) ∧ Kept [] w1 w' := by
    intro w1 hk
    subst hn
    have h := ropen_any a m c o sg w1 (hl.kept hk) hm h4 (by omega)
    rw [decide_eq_false hne] at h
    exact h
  have ho := Lib.hid ho
  have hb' := Lib.hid hb
  clear hb hl hm hne hn h4
  go_enter Try.func20, Try.ntmps20
  go_wp2_with fail
  refine (ho.out _ hk0).mono ?_
  rintro e w1 ⟨rfl, hk1⟩
  have hb1 := hk1.blk hb'.out (by simp)
  go_wp2_with (refine store_blk rfl 25 (.tmp 4) (.tmp 25) rfl w.heap.size rfl 25 _ (dgl dg0 none 0) rfl hb1 rfl infoDg (by decide) ?_)
  intro w2 hb2 hk2
  go_wp2
  exact bodyPost_ret (ret_blk2 rfl _ w.heap.size _ _ _ _ rfl rfl hb2 Try.underlying25 rfl infoDg) rfl ⟨rfl, kept_res (hk0.trans0 hk1) hk2⟩
set_option maxRecDepth 100000 in
set_option maxHeartbeats 6400000 in
theorem rdecode_body (s : Nat) (a : Option Addr) (n m c : Nat) (o sg : List UInt8) (w : World) (hl : Bts w a n c (o ++ sg)) (hm : o.length = m) (h4 : sg.length = 4) (hn : n = m + 4) (h1 : 29 ≤ m) (h2 : m ≤ 1396) (hs : s < 4294967296) (hok : sg = le4 (mor 0 o)) :
    Calls Try.prog 20 #[.int .u32 s, .slice a n c] w (DecP w s o) := by
  have hz := zeroDg
  have hle := hl.hle
  have htop := hl.htop
  unfold maxLen at htop
  have g1 : ¬ (1400 : Int) < (n : Int) := by omega
  have g2 : ¬ (n : Int) < 33 := by omega
  have gc : (m : Int) + 4 ≤ (c : Int) := by omega
  have gi0 : (0 : Int) < (m : Int) := by omega
  have gi1 : (1 : Int) < (m : Int) := by omega
  have gi2 : (2 : Int) < (m : Int) := by omega
  have gi3 : (3 : Int) < (m : Int) := by omega
  have gi24 : (24 : Int) < (m : Int) := by omega
  have gi25 : (25 : Int) < (m : Int) := by omega
  have gi26 : (26 : Int) < (m : Int) := by omega
  have hb := blkZ w
  have hk0 : Kept [] w (w.alloc (.cells #[.int .i64 0, .int .u32 0, .int .u32 0, .int .i64 0, .int .u32 0, .int .u32 0, .int .u32 0, .int .i64 0, .int .i64 0, .int .i64 0, .slice none 0 0] 25)) := (Kept.refl _ _).alloc _
  have ho : ∀ w1, Kept [] w w1 → Calls Try.prog 34 #[.slice a n c] w1 fun e w' => e = .returned (.tuple #[.slice a m c, .int .i64 0]) ∧ Kept [] w1 w' := by
    intro w1 hk
    subst hn
    have h := ropen_any a m c o sg w1 (hl.kept hk) hm h4 (by omega)
    rw [decide_eq_true hok] at h
    exact h
  obtain ⟨b, off, rfl⟩ := hl.some (by simp; omega)
  have ht : Bts w (some ⟨b, off, none⟩) m c o := by
    have h := hl.take m (by simp; omega)
    rwa [List.take_left' hm] at h
  have ho := Lib.hid ho
  have hb' := Lib.hid hb
  have hm' := Lib.hid hm
  have ht' := Lib.hid ht
  have HG : ∀ w' i k, Kept [] w w' → 0 < k → i + k ≤ m → Bts w' (some ⟨b, off + i, none⟩) k (c - i) ((o.drop i).take k) := fun w' i k hk h0 hik =>
    ((ht.kept hk).drop i (by omega)).take k (by simp; omega)
  have HG' := Lib.hid HG
  clear HG
  clear hb hl hm h4 hok hn ht
  generalize hx0 : fld o 0 1 = x0
  generalize hx1 : fld o 1 1 = x1
  generalize hx2 : fld o 2 1 = x2
  generalize hx3 : fld o 3 1 = x3
  have l0 : x0 < 256 := by have := fld_lt o 0 1; omega
  have l1 : x1 < 256 := by have := fld_lt o 1 1; omega
  have l2 : x2 < 256 := by have := fld_lt o 2 1; omega
  have l3 : x3 < 256 := by have := fld_lt o 3 1; omega
  have HX0 := Lib.hid hx0
  have HX1 := Lib.hid hx1
  have HX2 := Lib.hid hx2
  have HX3 := Lib.hid hx3
  clear hx0 hx1 hx2 hx3
  go_enter Try.func20, Try.ntmps20
  go_wp2_with fail
  refine (ho.out _ hk0).mono ?_
  rintro e w1 ⟨rfl, hk1⟩
  have hb1 := hk1.blk hb'.out (by simp)
  have hk01 := hk0.trans0 hk1
  have hH := Lib.hid hk01
  clear hk0 hk1
  have ht1 := ht'.out.kept hk01
  have q2 := ht1.fldc 2 x2 (by have := hm'.out; omega) HX2
  have q3 := ht1.fldc 3 x3 (by have := hm'.out; omega) HX3
  have e2 := World.new_ne w1 _ q2
  have e3 := World.new_ne w1 _ q3
  clear ht1
  have uw2 : IntKind.i64.wrap (x2 : Int) = (x2 : Int) := by rw [IntKind.wrap_i64]; omega
  have uw3 : IntKind.i64.wrap (x3 : Int) = (x3 : Int) := by rw [IntKind.wrap_i64]; omega
  go_upto_region 9 with fail
  go_cut [8] (fun s8 wx => s8 = .pointer (some ⟨w1.heap.size, 0, none⟩) ∧ wx = (w1.alloc (.cells #[.int .i64 (x2 : Int), .int .u32 0, .int .u32 0, .int .i64 (x3 : Int), .int .u32 0, .int .u32 0, .int .u32 0, .int .i64 0, .int .i64 0, .int .i64 0, .slice none 0 0] 25)).drew)
  case first =>
    go_region_held3 (fun w' => w'.cell? ⟨b, off + 2, none⟩ = some (.int .u8 (x2 : Int)) ∧ w'.cell? ⟨b, off + 3, none⟩ = some (.int .u8 (x3 : Int))) (go_keep) (fail)
    all_goals (go_wp2_with fail; go_meet; exact ⟨rfl, rfl⟩)
  case rest =>
    obtain ⟨rfl, rfl⟩ := hcut
    clear q2 q3 e2 e3 uw2 uw3
    generalize hx4 : fld o 4 4 = x4
    have l4 : x4 < 4294967296 := by have := fld_lt o 4 4; omega
    have HX4 := Lib.hid hx4
    clear hx4
    generalize hx5 : fld o 8 4 = x5
    have l5 : x5 < 4294967296 := by have := fld_lt o 8 4; omega
    have HX5 := Lib.hid hx5
    clear hx5
    generalize hx6 : fld o 12 4 = x6
    have l6 : x6 < 4294967296 := by have := fld_lt o 12 4; omega
    have HX6 := Lib.hid hx6
    clear hx6
    generalize hx7 : fld o 16 4 = x7
    have l7 : x7 < 4294967296 := by have := fld_lt o 16 4; omega
    have HX7 := Lib.hid hx7
    clear hx7
    generalize hx8 : fld o 20 4 = x8
    have l8 : x8 < 4294967296 := by have := fld_lt o 20 4; omega
    have HX8 := Lib.hid hx8
    clear hx8
    go_wp2_with fail
    refine (rgetX _ 4 _ 4 4 o x4 _ (HG'.out _ 4 4 (by repeat (first | exact hH.out | apply Kept.drew | apply Kept.alloc)) (by omega) (by omega)) (by omega) HX4).mono ?_
    rintro e w2 ⟨rfl, rfl⟩
    go_wp2_with fail
    refine (rgetX _ 4 _ 8 4 o x5 _ (HG'.out _ 8 4 (by repeat (first | exact hH.out | apply Kept.drew | apply Kept.alloc)) (by omega) (by omega)) (by omega) HX5).mono ?_
    rintro e w2 ⟨rfl, rfl⟩
    go_wp2_with fail
    refine (rgetX _ 4 _ 12 4 o x6 _ (HG'.out _ 12 4 (by repeat (first | exact hH.out | apply Kept.drew | apply Kept.alloc)) (by omega) (by omega)) (by omega) HX6).mono ?_
    rintro e w2 ⟨rfl, rfl⟩
    go_wp2_with fail
    refine (rgetX _ 4 _ 16 4 o x7 _ (HG'.out _ 16 4 (by repeat (first | exact hH.out | apply Kept.drew | apply Kept.alloc)) (by omega) (by omega)) (by omega) HX7).mono ?_
    rintro e w2 ⟨rfl, rfl⟩
    go_wp2_with fail
    refine (rgetX _ 4 _ 20 4 o x8 _ (HG'.out _ 20 4 (by repeat (first | exact hH.out | apply Kept.drew | apply Kept.alloc)) (by omega) (by omega)) (by omega) HX8).mono ?_
    rintro e w2 ⟨rfl, rfl⟩
    generalize hx9 : fld o 24 1 = x9
    have l9 : x9 < 256 := by have := fld_lt o 24 1; omega
    have HX9 := Lib.hid hx9
    clear hx9
    generalize hx10 : fld o 25 1 = x10
    have l10 : x10 < 256 := by have := fld_lt o 25 1; omega
    have HX10 := Lib.hid hx10
    clear hx10
    generalize hx11 : fld o 26 1 = x11
    have l11 : x11 < 256 := by have := fld_lt o 26 1; omega
    have HX11 := Lib.hid hx11
    clear hx11
    generalize hx12 : fld o 27 2 = x12
    have l12 : x12 < 65536 := by have := fld_lt o 27 2; omega
    have HX12 := Lib.hid hx12
    clear hx12
    have ht1 := ht'.out.kept hH.out
    have q9 := ht1.fldc 24 x9 (by have := hm'.out; omega) HX9
    have e9 := World.new_ne w1 _ q9
    have uw9 : IntKind.i64.wrap (x9 : Int) = (x9 : Int) := by rw [IntKind.wrap_i64]; omega
    have q10 := ht1.fldc 25 x10 (by have := hm'.out; omega) HX10
    have e10 := World.new_ne w1 _ q10
    have uw10 : IntKind.i64.wrap (x10 : Int) = (x10 : Int) := by rw [IntKind.wrap_i64]; omega
    have q11 := ht1.fldc 26 x11 (by have := hm'.out; omega) HX11
    have e11 := World.new_ne w1 _ q11
    have uw11 : IntKind.i64.wrap (x11 : Int) = (x11 : Int) := by rw [IntKind.wrap_i64]; omega
    clear ht1
    go_upto_region 15 with fail
    go_cut [8] (fun s8 wx => s8 = .pointer (some ⟨w1.heap.size, 0, none⟩) ∧ wx = (w1.alloc (.cells #[.int .i64 (x2 : Int), .int .u32 (x4 : Int), .int .u32 (x5 : Int), .int .i64 (x3 : Int), .int .u32 (x6 : Int), .int .u32 (x7 : Int), .int .u32 (x8 : Int), .int .i64 (x9 : Int), .int .i64 (x10 : Int), .int .i64 (x11 : Int), .slice none 0 0] 25)).drew.drew)
    case first =>
      go_region_held3 (fun w' => w'.cell? ⟨b, off + 24, none⟩ = some (.int .u8 (x9 : Int)) ∧ w'.cell? ⟨b, off + 25, none⟩ = some (.int .u8 (x10 : Int)) ∧ w'.cell? ⟨b, off + 26, none⟩ = some (.int .u8 (x11 : Int))) (go_keep) (fail)
      all_goals (go_wp2_with fail; go_meet; exact ⟨rfl, rfl⟩)
    case rest =>
      obtain ⟨rfl, rfl⟩ := hcut
      clear q9 e9 uw9 q10 e10 uw10 q11 e11 uw11
      have q0 := fun ob => (ht'.out.kept (hH.out.alloc ob)).fldc 0 x0 (by have := hm'.out; omega) HX0
      simp only [Nat.add_zero] at q0
      have q1 := fun ob => (ht'.out.kept (hH.out.alloc ob)).fldc 1 x1 (by have := hm'.out; omega) HX1
      have gz : (29 : Int) ≤ (m : Int) := by omega
      have gz2 : (29 : Int) < (c : Int) := by omega
      have hk3 : Kept [] w (w1.alloc (.cells #[.int .i64 (x2 : Int), .int .u32 (x4 : Int), .int .u32 (x5 : Int), .int .i64 (x3 : Int), .int .u32 (x6 : Int), .int .u32 (x7 : Int), .int .u32 (x8 : Int), .int .i64 (x9 : Int), .int .i64 (x10 : Int), .int .i64 (x11 : Int), .slice (some ⟨b, off + 29, none⟩) (m - 29) (c - 29)] 25)).drew.drew := ((hH.out.alloc _).drew).drew
      have hres3 : Blk (w1.alloc (.cells #[.int .i64 (x2 : Int), .int .u32 (x4 : Int), .int .u32 (x5 : Int), .int .i64 (x3 : Int), .int .u32 (x6 : Int), .int .u32 (x7 : Int), .int .u32 (x8 : Int), .int .i64 (x9 : Int), .int .i64 (x10 : Int), .int .i64 (x11 : Int), .slice (some ⟨b, off + 29, none⟩) (m - 29) (c - 29)] 25)).drew.drew w.heap.size (dgl dg0 none 0) 25 := ((hb1.alloc _).drew).drew
      have HK3 := Lib.hid hk3
      have HR3 := Lib.hid hres3
      clear hk3 hres3
      have hmag := fld_two o 0 (by have := hm'.out; omega)
      rw [HX0.out, HX1.out] at hmag
      rcases (show ¬ x0 = 66 ∨ (x0 = 66 ∧ ¬ x1 = 107) ∨ (x0 = 66 ∧ x1 = 107 ∧ ¬ x4 = s) ∨ (x0 = 66 ∧ x1 = 107 ∧ x4 = s) by omega) with h0 | ⟨h0, h3⟩ | ⟨h0, h3, h5⟩ | ⟨h0, h3, h5⟩
      · have HE := Lib.hid (show opE s o = 71 by unfold opE; exact if_pos (.inl (by omega))) --V
        have b0 : ((x0 : Int) != 66) = true := by rw [bne_iff_ne]; omega
        clear h0 hmag
        go_wp2_with (refine store_blk rfl 25 (.tmp 4) (.tmp 96) rfl w.heap.size rfl 25 _ (dgl dg0 none 0) rfl HR3.out rfl infoDg (by decide) ?_)
        intro w6 hb6 hk6
        go_wp2
        exact bodyPost_ret (ret_blk2 rfl _ w.heap.size _ _ (.int .i64 71) _ rfl rfl hb6 Try.underlying25 rfl infoDg) rfl (decP_no HE.out (by omega) (kept_res HK3.out hk6))
      · have HE := Lib.hid (show opE s o = 71 by unfold opE; exact if_pos (.inl (by omega))) --V
        have b0 : ((x0 : Int) != 66) = false := by rw [h0]; rfl
        have b1 : ((x1 : Int) != 107) = true := by rw [bne_iff_ne]; omega
        clear h0 h3 hmag
        go_wp2_with (refine store_blk rfl 25 (.tmp 4) (.tmp 96) rfl w.heap.size rfl 25 _ (dgl dg0 none 0) rfl HR3.out rfl infoDg (by decide) ?_)
        intro w6 hb6 hk6
        go_wp2
        exact bodyPost_ret (ret_blk2 rfl _ w.heap.size _ _ (.int .i64 71) _ rfl rfl hb6 Try.underlying25 rfl infoDg) rfl (decP_no HE.out (by omega) (kept_res HK3.out hk6))
      · have HE := Lib.hid (show opE s o = 71 by unfold opE; rw [HX4.out]; exact if_pos (.inr h5)) --V
        have b0 : ((x0 : Int) != 66) = false := by rw [h0]; rfl
        have b1 : ((x1 : Int) != 107) = false := by rw [h3]; rfl
        have b2 : ((x4 : Int) != (s : Int)) = true := by rw [bne_iff_ne]; omega
        clear h0 h3 h5 hmag
        go_wp2_with (refine store_blk rfl 25 (.tmp 4) (.tmp 96) rfl w.heap.size rfl 25 _ (dgl dg0 none 0) rfl HR3.out rfl infoDg (by decide) ?_)
        intro w6 hb6 hk6
        go_wp2
        exact bodyPost_ret (ret_blk2 rfl _ w.heap.size _ _ (.int .i64 71) _ rfl rfl hb6 Try.underlying25 rfl infoDg) rfl (decP_no HE.out (by omega) (kept_res HK3.out hk6))
      · have HE := Lib.hid (show opE s o = if ¬ fld o 27 2 = o.length - 29 then 73 else chk (rdD o) by unfold opE; rw [HX4.out]; exact if_neg (by omega))
        have b0 : ((x0 : Int) != 66) = false := by rw [h0]; rfl
        have b1 : ((x1 : Int) != 107) = false := by rw [h3]; rfl
        have b2 : ((x4 : Int) != (s : Int)) = false := by rw [h5]; simp
        clear h0 h3 h5 hmag
        have hlen : (o.drop 29).length = m - 29 := by rw [List.length_drop, hm'.out]
        have hD : dgl (rdD o) (some ⟨b, off + 29, none⟩) (c - 29) = [.int .i64 (x2 : Int), .int .u32 (x4 : Int), .int .u32 (x5 : Int), .int .i64 (x3 : Int), .int .u32 (x6 : Int), .int .u32 (x7 : Int), .int .u32 (x8 : Int), .int .i64 (x9 : Int), .int .i64 (x10 : Int), .int .i64 (x11 : Int), .slice (some ⟨b, off + 29, none⟩) (m - 29) (c - 29)] := by
          unfold dgl rdD
          simp only [HX2.out, HX3.out, HX4.out, HX5.out, HX6.out, HX7.out, HX8.out, HX9.out, HX10.out, HX11.out, hlen]
        have hset : Blk (w1.alloc (.cells #[.int .i64 (x2 : Int), .int .u32 (x4 : Int), .int .u32 (x5 : Int), .int .i64 (x3 : Int), .int .u32 (x6 : Int), .int .u32 (x7 : Int), .int .u32 (x8 : Int), .int .i64 (x9 : Int), .int .i64 (x10 : Int), .int .i64 (x11 : Int), .slice (some ⟨b, off + 29, none⟩) (m - 29) (c - 29)] 25)).drew.drew w1.heap.size (dgl (rdD o) (some ⟨b, off + 29, none⟩) (c - 29)) 25 := by rw [hD]; exact ((Blk.new w1 _ _).drew).drew
        have hdat : ∀ w', Kept [] w w' → Bts w' (some ⟨b, off + 29, none⟩) (rdD o).data.length (c - 29) (rdD o).data := fun w' hk => by
          have h := (ht'.out.kept hk).drop 29 (by have := hm'.out; omega)
          have e : (rdD o).data = o.drop 29 := rfl
          rw [e, hlen]
          exact h
        have HS := Lib.hid hset
        have HD := Lib.hid hdat
        clear hlen hD hset hdat
        go_wp2_with fail
        refine (rgetX _ 2 _ 27 2 o x12 _ (HG'.out _ 27 2 HK3.out (by omega) (by omega)) (by omega) HX12).mono ?_
        rintro e w2 ⟨rfl, rfl⟩
        by_cases h12 : x12 = m - 29
        · have HF := Lib.hid (show opE s o = chk (rdD o) by rw [HE.out, HX12.out, hm'.out]; exact if_neg (by omega))
          have b12 : ((x12 : Int) != (m : Int) - 29) = false := by rw [bne_eq_false_iff_eq]; omega
          have hrow := HS.out.row
          have hhas : hasRow (w1.alloc (.cells #[.int .i64 (x2 : Int), .int .u32 (x4 : Int), .int .u32 (x5 : Int), .int .i64 (x3 : Int), .int .u32 (x6 : Int), .int .u32 (x7 : Int), .int .u32 (x8 : Int), .int .i64 (x9 : Int), .int .i64 (x10 : Int), .int .i64 (x11 : Int), .slice (some ⟨b, off + 29, none⟩) (m - 29) (c - 29)] 25)).drew.drew w1.heap.size 11 = true := HS.out.has
          clear h12 q0 q1
          go_wp2_with fail
          refine (rcheck_any (rdD o) _ _ (c - 29) _ (HD.out _ HK3.out)).mono ?_
          rintro e w16 ⟨rfl, hk16⟩
          have hres16 := hk16.blk HR3.out (by simp)
          have hd16 := hk16.blk HS.out (by simp)
          have hk016 := HK3.out.trans0 hk16
          clear hrow hhas
          by_cases hc : chk (rdD o) = 0
          · have bc : (chk (rdD o) != 0) = false := by rw [hc]; rfl
            have hHF := Lib.hid (HF.out.trans hc)
            have hrow := hd16.row
            have hhas : hasRow w16 w1.heap.size 11 = true := hd16.has
            have Hk016 := Lib.hid hk016
            clear hd16 hk16 hc hk016
            go_wp2_with (refine store_blk rfl 25 (.tmp 4) (.tmp 112) rfl w.heap.size rfl 25 _ (dgl (rdD o) (some ⟨b, off + 29, none⟩) (c - 29)) rfl hres16 rfl infoDg (dgl_one _ _ _) ?_)
            intro w17 hb17 hk17
            clear hrow hhas
            go_wp2
            exact bodyPost_ret (ret_blk2 rfl _ w.heap.size _ _ (.int .i64 0) _ rfl rfl hb17 Try.underlying25 rfl infoDg) rfl ⟨rdD o, _, c - 29, by rw [hHF.out], by rw [hHF.out]; rfl, HD.out _ (kept_res Hk016.out hk17), kept_res Hk016.out hk17⟩
          · have bc : (chk (rdD o) != 0) = true := by rw [bne_iff_ne]; exact hc
            have hc' := Lib.hid hc
            clear hc
            go_wp2_with (refine store_blk rfl 25 (.tmp 4) (.tmp 110) rfl w.heap.size rfl 25 _ (dgl dg0 none 0) rfl hres16 rfl infoDg (by decide) ?_)
            intro w17 hb17 hk17
            go_wp2
            exact bodyPost_ret (ret_blk2 rfl _ w.heap.size _ _ (.int .i64 (chk (rdD o))) _ rfl rfl hb17 Try.underlying25 rfl infoDg) rfl (decP_no HF.out hc'.out (kept_res hk016 hk17))
        · have HF := Lib.hid (show opE s o = 73 by rw [HE.out, HX12.out, hm'.out]; exact if_pos (by omega)) --V
          have b12 : ((x12 : Int) != (m : Int) - 29) = true := by rw [bne_iff_ne]; omega
          clear h12
          go_wp2_with (refine store_blk rfl 25 (.tmp 4) (.tmp 105) rfl w.heap.size rfl 25 _ (dgl dg0 none 0) rfl HR3.out rfl infoDg (by decide) ?_)
          intro w6 hb6 hk6
          go_wp2
          exact bodyPost_ret (ret_blk2 rfl _ w.heap.size _ _ (.int .i64 73) _ rfl rfl hb6 Try.underlying25 rfl infoDg) rfl (decP_no HF.out (by omega) (kept_res HK3.out hk6))
end Go.Proofs.Ytpedenaaiinakaa
