import Derived.Test.YtpedenaaiinakaaWireJ
import Derived.Test.YtpedenaaiinakaaOpen
namespace Go.Proofs.Ytpedenaaiinakaa
open Go Go.RowKit
attribute [local go_sem ↓] exec_Dg
attribute [local go_sem] goodPtr_at rowAt_at
set_option maxRecDepth 100000 in
set_option maxHeartbeats 3200000 in
theorem law_encodes (d : Dg) (p : Option Addr) (n c : Nat) (w : World) (hd : Bts w p n c d.data) (hf : DgFits d) :
    Calls Try.prog 3 #[.agg (dgl d p c).toArray] w fun e w' => e = .returned (.bool true) ∧ Kept [] w w' := by
  obtain rfl := hd.hlen
  have hb := Blk.new w (dgl d p c) 25
  have hk0 : Kept [] w (w.alloc (.cells (dgl d p c).toArray 25)) := (Kept.refl _ _).alloc _
  have hb' := Lib.hid hb
  have hd' := Lib.hid hd
  have hf' := Lib.hid hf
  have hk0' := Lib.hid hk0
  have hG : ∀ w3 w4 : World, ((rowOf w3 w.heap.size = (dgl d p c).toArray ∧ hasRow w3 w.heap.size 11 = true) ∧ (Hid (Blk w3 w.heap.size (dgl d p c) 25) ∧ Kept [] w w3)) → Kept [] w3 w4 → ((rowOf w4 w.heap.size = (dgl d p c).toArray ∧ hasRow w4 w.heap.size 11 = true) ∧ (Hid (Blk w4 w.heap.size (dgl d p c) 25) ∧ Kept [] w w4)) := fun w3 w4 h hk =>
    have hb4 := hk.blk h.2.1.out (by simp)
    ⟨⟨hb4.row, hb4.has⟩, Lib.hid hb4, h.2.2.trans0 hk⟩
  have HG := Lib.hid hG
  clear hb hd hf hk0 hG
  go_enter Try.func3, Try.ntmps3
  go_wp2_with fail
  refine (wawake_any _).mono ?_
  rintro e w1 ⟨rfl, hk1⟩
  have hb1 := hk1.blk hb'.out (by simp)
  have c1 := hb1.cell (show (dgl d p c)[10]? = some (.slice p d.data.length c) from rfl)
  have hk01 := hk0'.out.trans0 hk1
  have hrow := hb1.row
  have hhas : hasRow w1 w.heap.size 11 = true := hb1.has
  have hb1' := Lib.hid hb1
  have hk01' := Lib.hid hk01
  clear hb1 hk01 hk1
  by_cases hbig : 3000 < d.data.length
  · go_wp2
    go_ret
    exact ⟨rfl, hk01'.out⟩
  · go_wp2_with fail
    clear c1
    have hSS : (rowOf w1 w.heap.size = (dgl d p c).toArray ∧ hasRow w1 w.heap.size 11 = true) ∧ (Hid (Blk w1 w.heap.size (dgl d p c) 25) ∧ Kept [] w w1) := ⟨⟨hrow, hhas⟩, hb1', hk01'.out⟩
    clear hrow hhas
    go_region_held3 (fun w' => (rowOf w' w.heap.size = (dgl d p c).toArray ∧ hasRow w' w.heap.size 11 = true) ∧ (Hid (Blk w' w.heap.size (dgl d p c) 25) ∧ Kept [] w w')) (first | exact hSS | exact ⟨⟨hSS.2.1.out.drew.row, hSS.2.1.out.drew.has⟩, Lib.hid hSS.2.1.out.drew, hSS.2.2.drew⟩ | assumption)
      (first | (go_at_call 11; refine (new_any _).mono ?_; rintro e w' ⟨rfl, hT, hk⟩; have hSS := HG.out _ _ ‹_› hk) | (go_at_call 10; refine (encode_any _ d p _ c _ (hd'.out.kept (by first | exact hSS.2.2 | exact hSS.2.2.drew)) hf'.out (by first | exact hT | exact hT.drew)).mono ?_; rintro e w' ⟨v, rfl, ho, hk⟩; have hSS := HG.out _ _ ‹_› hk))
    have hrow := hSS.1.1
    have hhas := hSS.1.2
    go_wp2_with fail
    refine (rencode_any d p _ c _ (hd'.out.kept hSS.2.2) hf'.out).mono ?_
    rintro e w3 ⟨v3, rfl, ho3, hk3⟩
    have hSS3 := HG.out _ _ hSS hk3
    clear hrow hhas
    have hrow := hSS3.1.1
    have hhas := hSS3.1.2
    have ho' := ho.kept hk3
    obtain ⟨a3, c3, rfl, hb3⟩ := ho3.bts
    obtain ⟨a2, c2, rfl, hb2⟩ := ho'.bts
    clear ho ho3 ho'
    go_wp2_with fail
    refine (check_any d p _ c _ (hd'.out.kept hSS3.2.2)).mono ?_
    rintro e w4 ⟨rfl, hk4⟩
    have hSS4 := HG.out _ _ hSS3 hk4
    clear hrow hhas
    go_wp2_with fail
    refine (same_any a2 a3 _ _ c2 c3 (encL d) (encL d) w4 (hb2.kept hk4) (hb3.kept hk4)).mono ?_
    rintro e w5 ⟨rfl, q, rfl⟩
    have hk5 : Kept [] w4 (w4.drewN q) := (Kept.refl _ _).drewN _
    have hSS5 := HG.out _ _ hSS4 hk5
    have hrow := hSS5.1.1
    have hhas := hSS5.1.2
    clear hb2 hb3
    by_cases hc : chk d = 0
    · have hl := encL_good d hc
      have hl2 : ((encL d).length : Int) = ((33 + d.data.length : Nat) : Int) := by rw [hl]
      have hc' := Lib.hid hc
      have hne : (chk d != 0) = false := by rw [hc]; rfl
      clear hc hl
      go_wp2_with fail
      refine (size_any d p _ c _ (hd'.out.kept hSS5.2.2) (by omega)).mono ?_
      rintro e w6 ⟨rfl, hk6⟩
      have hSS6 := HG.out _ _ hSS5 hk6
      have heq : (((33 + d.data.length : Nat) : Int) == ((encL d).length : Int)) = true := by rw [hl2]; simp
      clear hrow hhas
      go_wp2
      go_ret
      exact ⟨rfl, hSS6.2.2⟩
    · have hne : (chk d != 0) = true := by rw [bne_iff_ne]; exact hc
      clear hc
      go_wp2
      go_ret
      exact ⟨rfl, hSS5.2.2⟩
open Go.ChangeShapes Go.WideShapes in
theorem dg_of {H : Type} {enc : TypeId × Value → H} {w : World} {base : Nat} {held : Bool} {cs : List Value} (h : Rd enc Try.prog w base (fun _ => true) held 25 cs) : ∃ d p c, cs = dgl d p c ∧ Bts w p d.data.length c d.data ∧ DgFits d := by
  have hl := h.len Try.underlying25
  rw [show Try.prog.cellsOf 25 = 11 by kernel_rfl] at hl
  have ci : Try.prog.cellsOf 3 = 1 := by kernel_rfl
  have cu : Try.prog.cellsOf 22 = 1 := by kernel_rfl
  have cb : Try.prog.cellsOf 23 = 1 := by kernel_rfl
  obtain ⟨n0, e0, f0⟩ := (h.field Try.underlying25 0 _ rfl).int Try.underlying3
  obtain ⟨n1, e1, f1⟩ := (h.field Try.underlying25 1 _ rfl).int Try.underlying22
  obtain ⟨n2, e2, f2⟩ := (h.field Try.underlying25 2 _ rfl).int Try.underlying22
  obtain ⟨n3, e3, f3⟩ := (h.field Try.underlying25 3 _ rfl).int Try.underlying3
  obtain ⟨n4, e4, f4⟩ := (h.field Try.underlying25 4 _ rfl).int Try.underlying22
  obtain ⟨n5, e5, f5⟩ := (h.field Try.underlying25 5 _ rfl).int Try.underlying22
  obtain ⟨n6, e6, f6⟩ := (h.field Try.underlying25 6 _ rfl).int Try.underlying22
  obtain ⟨n7, e7, f7⟩ := (h.field Try.underlying25 7 _ rfl).int Try.underlying3
  obtain ⟨n8, e8, f8⟩ := (h.field Try.underlying25 8 _ rfl).int Try.underlying3
  obtain ⟨n9, e9, f9⟩ := (h.field Try.underlying25 9 _ rfl).int Try.underlying3
  obtain ⟨fuel, x, e10⟩ := h.field Try.underlying25 10 _ rfl
  try simp only [ci] at e0
  try simp only [cu] at e0
  try simp only [cb] at e0
  try simp only [ci] at e1
  try simp only [cu] at e1
  try simp only [cb] at e1
  try simp only [ci] at e2
  try simp only [cu] at e2
  try simp only [cb] at e2
  try simp only [ci] at e3
  try simp only [cu] at e3
  try simp only [cb] at e3
  try simp only [ci] at e4
  try simp only [cu] at e4
  try simp only [cb] at e4
  try simp only [ci] at e5
  try simp only [cu] at e5
  try simp only [cb] at e5
  try simp only [ci] at e6
  try simp only [cu] at e6
  try simp only [cb] at e6
  try simp only [ci] at e7
  try simp only [cu] at e7
  try simp only [cb] at e7
  try simp only [ci] at e8
  try simp only [cu] at e8
  try simp only [cb] at e8
  try simp only [ci] at e9
  try simp only [cu] at e9
  try simp only [cb] at e9
  try simp only [ci] at e10
  try simp only [cu] at e10
  try simp only [cb] at e10
  try rw [ci] at e0
  match cs, hl with
  | [v0, v1, v2, v3, v4, v5, v6, v7, v8, v9, v10], _ =>
    have g0 := at_of e0; have g1 := at_of e1; have g2 := at_of e2; have g3 := at_of e3; have g4 := at_of e4; have g5 := at_of e5
    have g6 := at_of e6; have g7 := at_of e7; have g8 := at_of e8; have g9 := at_of e9
    simp at g0 g1 g2 g3 g4 g5 g6 g7 g8 g9
    subst g0 g1 g2 g3 g4 g5 g6 g7 g8 g9
    obtain ⟨a, n, c, l, rfl, hb⟩ := byte_of (v := v10) (by simpa [cb] using e10)
    obtain ⟨m1, rfl, k1⟩ := nat_u32 f1
    obtain ⟨m2, rfl, k2⟩ := nat_u32 f2
    obtain ⟨m4, rfl, k4⟩ := nat_u32 f4
    obtain ⟨m5, rfl, k5⟩ := nat_u32 f5
    obtain ⟨m6, rfl, k6⟩ := nat_u32 f6
    obtain rfl := hb.hlen
    refine ⟨{ kind := n0, sess := m1, seq := m2, path := n3, tick := m4, a := m5, b := m6, k := n7, m := n8, index := n9, data := l }, a, c, rfl, hb, ?_⟩
    exact ⟨int_i64 f0, int_i64 f3, k1, k2, k4, k5, k6⟩
end Go.Proofs.Ytpedenaaiinakaa
