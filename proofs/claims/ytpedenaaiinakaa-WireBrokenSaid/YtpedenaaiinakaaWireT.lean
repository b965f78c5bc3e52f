import Derived.Test.YtpedenaaiinakaaWireS
namespace Go.Proofs.Ytpedenaaiinakaa
open Go Go.RowKit
attribute [local go_sem ↓] exec_Dg
attribute [local go_sem] goodPtr_at rowAt_at
theorem kept_new {w w' : World} {o : Obj} (hk : Kept [w.heap.size] (w.alloc o) w') : Kept [] w w' :=
  ((Kept.refl [] w).alloc o).trans hk (fun _ h => h) (fun x h => by simp at h; subst h; exact .inr (Nat.le_refl _))
set_option maxRecDepth 100000 in
set_option maxHeartbeats 3200000 in
theorem law_decodes (s : Nat) (a : Option Addr) (n c : Nat) (l : List UInt8) (w : World) (hl : Bts w a n c l) (hs : s < 4294967296) :
    Calls Try.prog 5 #[.int .u32 s, .slice a n c] w fun e w' => e = .returned (.bool true) ∧ Kept [] w w' := by
  have hz := zeroDg
  by_cases hbig : 3000 < n
  · have hbi : (3000 : Int) < (n : Int) := by omega
    go_enter Try.func5, Try.ntmps5
    go_wp2_with fail
    refine (wawake_any _).mono ?_
    rintro e w1 ⟨rfl, hk1⟩
    go_wp2
    go_ret
    exact ⟨rfl, hk1⟩
  · have hbi : ¬ (3000 : Int) < (n : Int) := by omega
    have hl' := Lib.hid hl
    have HD := Lib.hid (fun t w ht hl => decode_any t s a n c l w hl ht hs)
    have HR := Lib.hid (fun w hl => rdecode_any s a n c l w hl hs)
    clear hl
    generalize decD s l = D at *
    generalize decE s l = E at *
    have bE : (E == E) = true := by simp
    go_enter Try.func5, Try.ntmps5
    go_wp2_with fail
    refine (wawake_any _).mono ?_
    rintro e w1 ⟨rfl, hk1⟩
    go_wp2_with fail
    refine (new_any _).mono ?_
    rintro e w2 ⟨rfl, ht2, hk2⟩
    have hk02 := hk1.trans0 hk2
    go_wp2_with fail
    refine (HD.out _ _ ht2 (hl'.out.kept hk02)).mono ?_
    rintro e w3 ⟨p3, c3, rfl, hd3, hk3⟩
    have hk03 := hk02.trans0 hk3
    clear ht2 hk1 hk2 hk02 hk3
    go_wp2_with (refine store_blk rfl 25 (.tmp 5) (.tmp 19) rfl w3.heap.size rfl 25 _ (dgl D p3 c3) rfl (blkZ w3) rfl infoDg (dgl_one _ _ _) ?_)
    intro w4 hb4 hk4
    have hk34 := kept_new hk4
    have hd4 := hd3.kept hk34
    have hk04 := hk03.trans0 hk34
    clear hk4 hd3 hk34 hk03
    go_wp2_with fail
    refine (HR.out _ (hl'.out.kept hk04)).mono ?_
    rintro e w5 ⟨p5, c5, rfl, hd5, hk5⟩
    have hk05 := hk04.trans0 hk5
    have hb5 := hk5.blk hb4 (by simp)
    have hd45 := hd4.kept hk5
    clear hb4 hd4 hk5 hk04
    go_wp2_with (refine store_blk rfl 25 (.tmp 7) (.tmp 25) rfl w5.heap.size rfl 25 _ (dgl D p5 c5) rfl (blkZ w5) rfl infoDg (dgl_one _ _ _) ?_)
    intro w6 hb6 hk6
    have hk56 := kept_new hk6
    have hb56 := hk56.blk hb5 (by simp)
    have hd46 := hd45.kept hk56
    have hd56 := hd5.kept hk56
    have hk06 := hk05.trans0 hk56
    have r1 := hb6.row
    have r2 : hasRow w6 w5.heap.size 11 = true := hb6.has
    have r3 := hb56.row
    have r4 : hasRow w6 w3.heap.size 11 = true := hb56.has
    clear hk6 hb5 hd45 hd5 hk05 hk56 hb6 hb56
    go_wp2_with fail
    refine (dsame_eq D p3 p5 c3 c5 _ hd46 hd56).mono ?_
    rintro e w7 ⟨rfl, hk7⟩
    go_wp2
    go_ret
    exact ⟨rfl, hk06.trans0 hk7⟩
set_option maxRecDepth 100000 in
set_option maxHeartbeats 3200000 in
theorem law_sealed (s : Nat) (a : Option Addr) (n c : Nat) (l : List UInt8) (w : World) (hl : Bts w a n c l) (hs : s < 4294967296) :
    Calls Try.prog 6 #[.int .u32 s, .slice a n c] w fun e w' => e = .returned (.bool true) ∧ Kept [] w w' := by
  have hz := zeroDg
  by_cases hbig : 2000 < n
  · have hbi : (2000 : Int) < (n : Int) := by omega
    go_enter Try.func6, Try.ntmps6
    go_wp2_with fail
    refine (wawake_any _).mono ?_
    rintro e w1 ⟨rfl, hk1⟩
    go_wp2
    go_ret
    exact ⟨rfl, hk1⟩
  · have hbi : ¬ (2000 : Int) < (n : Int) := by omega
    have hlen := hl.hlen
    have HSl := Lib.hid (fun w hl => rseal_any a n c l w hl (by omega))
    have hl' := Lib.hid hl
    have HD := Lib.hid (fun t a n c w ht hl => decode_any t s a n c (sealed l) w hl ht hs)
    have HR := Lib.hid (fun a n c w hl => rdecode_any s a n c (sealed l) w hl hs)
    clear hl hlen
    generalize decD s (sealed l) = D at *
    generalize decE s (sealed l) = E at *
    have bE : (E == E) = true := by simp
    go_enter Try.func6, Try.ntmps6
    go_wp2_with fail
    refine (wawake_any _).mono ?_
    rintro e w1 ⟨rfl, hk1⟩
    go_wp2_with fail
    refine (HSl.out _ (hl'.out.kept hk1)).mono ?_
    rintro e wa ⟨v, rfl, hown, hka⟩
    obtain ⟨aa, ca, hv, hba⟩ := Bts.own hown
    subst hv
    have hk0a := hk1.trans0 hka
    clear hk1 hka hown
    go_wp2_with fail
    refine (new_any _).mono ?_
    rintro e w2 ⟨rfl, ht2, hk2⟩
    have hk02 := hk0a.trans0 hk2
    have hba2 := hba.kept hk2
    clear hba hk2 hk0a
    go_wp2_with fail
    refine (HD.out _ _ _ _ _ ht2 hba2).mono ?_
    rintro e w3 ⟨p3, c3, rfl, hd3, hk3⟩
    have hk03 := hk02.trans0 hk3
    have hba3 := hba2.kept hk3
    clear ht2 hk02 hk3 hba2
    go_wp2_with (refine store_blk rfl 25 (.tmp 6) (.tmp 22) rfl w3.heap.size rfl 25 _ (dgl D p3 c3) rfl (blkZ w3) rfl infoDg (dgl_one _ _ _) ?_)
    intro w4 hb4 hk4
    have hk34 := kept_new hk4
    have hd4 := hd3.kept hk34
    have hba4 := hba3.kept hk34
    have hk04 := hk03.trans0 hk34
    clear hk4 hd3 hk34 hk03 hba3
    go_wp2_with fail
    refine (HR.out _ _ _ _ hba4).mono ?_
    rintro e w5 ⟨p5, c5, rfl, hd5, hk5⟩
    have hk05 := hk04.trans0 hk5
    have hb5 := hk5.blk hb4 (by simp)
    have hd45 := hd4.kept hk5
    clear hb4 hd4 hk5 hk04 hba4
    go_wp2_with (refine store_blk rfl 25 (.tmp 8) (.tmp 28) rfl w5.heap.size rfl 25 _ (dgl D p5 c5) rfl (blkZ w5) rfl infoDg (dgl_one _ _ _) ?_)
    intro w6 hb6 hk6
    have hk56 := kept_new hk6
    have hb56 := hk56.blk hb5 (by simp)
    have hd46 := hd45.kept hk56
    have hd56 := hd5.kept hk56
    have hk06 := hk05.trans0 hk56
    have r1 := hb6.row
    have r2 : hasRow w6 w5.heap.size 11 = true := hb6.has
    have r3 := hb56.row
    have r4 : hasRow w6 w3.heap.size 11 = true := hb56.has
    clear hk6 hb5 hd45 hd5 hk05 hk56 hb6 hb56
    go_wp2_with fail
    refine (dsame_eq D p3 p5 c3 c5 _ hd46 hd56).mono ?_
    rintro e w7 ⟨rfl, hk7⟩
    go_wp2
    go_ret
    exact ⟨rfl, hk06.trans0 hk7⟩
end Go.Proofs.Ytpedenaaiinakaa
