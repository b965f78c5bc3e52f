import Derived.Test.YtpedenaaiinakaaWireF
namespace Go.Proofs.Ytpedenaaiinakaa
open Go Go.RowKit
attribute [local go_sem ↓] exec_Dg
attribute [local go_sem] goodPtr_at rowAt_at
set_option maxHeartbeats 800000 in
theorem encode_bad (t : Nat) (d : Dg) (p : Option Addr) (n c : Nat) (w : World) (hd : Bts w p n c d.data) (hc : ¬ chk d = 0) :
    Calls Try.prog 10 #[.pointer (some ⟨t, 0, none⟩), .agg (dgl d p c).toArray] w fun e w' => e = .returned (.tuple #[.slice none 0 0, .int .i64 (chk d)]) ∧ Kept [] w w' := by
  obtain rfl := hd.hlen
  have hb := Blk.new w (dgl d p c) 25
  have hrow := hb.row
  have hhas : hasRow (w.alloc (.cells (dgl d p c).toArray 25)) w.heap.size 11 = true := hb.has
  have hk0 : Kept [] w (w.alloc (.cells (dgl d p c).toArray 25)) := (Kept.refl _ _).alloc _
  have hne : (chk d != 0) = true := by rw [bne_iff_ne]; exact hc
  have hck := Lib.hid (check_any d p d.data.length c (w.alloc (.cells (dgl d p c).toArray 25)) (hd.kept hk0))
  have hk0' := Lib.hid hk0
  clear hb hd hc hk0
  go_enter Try.func10, Try.ntmps10
  go_wp2_with fail
  refine hck.out.mono ?_
  rintro e w1 ⟨rfl, hk⟩
  go_wp2
  go_ret2
  exact ⟨rfl, hk0'.out.trans0 hk⟩
set_option maxHeartbeats 800000 in
theorem rencode_bad (d : Dg) (p : Option Addr) (n c : Nat) (w : World) (hd : Bts w p n c d.data) (hc : ¬ chk d = 0) :
    Calls Try.prog 12 #[.agg (dgl d p c).toArray] w fun e w' => e = .returned (.tuple #[.slice none 0 0, .int .i64 (chk d)]) ∧ Kept [] w w' := by
  obtain rfl := hd.hlen
  have hb := Blk.new w (dgl d p c) 25
  have hrow := hb.row
  have hhas : hasRow (w.alloc (.cells (dgl d p c).toArray 25)) w.heap.size 11 = true := hb.has
  have hk0 : Kept [] w (w.alloc (.cells (dgl d p c).toArray 25)) := (Kept.refl _ _).alloc _
  have hne : (chk d != 0) = true := by rw [bne_iff_ne]; exact hc
  have hck := Lib.hid (rcheck_any d p d.data.length c (w.alloc (.cells (dgl d p c).toArray 25)) (hd.kept hk0))
  have hk0' := Lib.hid hk0
  clear hb hd hc hk0
  go_enter Try.func12, Try.ntmps12
  go_wp2_with fail
  refine hck.out.mono ?_
  rintro e w1 ⟨rfl, hk⟩
  go_wp2
  go_ret2
  exact ⟨rfl, hk0'.out.trans0 hk⟩
set_option maxHeartbeats 800000 in
theorem rencode_good (d : Dg) (p : Option Addr) (n c : Nat) (w : World) (hd : Bts w p n c d.data) (hf : DgFits d) (hc : chk d = 0) :
    Calls Try.prog 12 #[.agg (dgl d p c).toArray] w fun e w' => ∃ v, e = .returned (.tuple #[v, .int .i64 0]) ∧ OwnB w' w.heap.size v (33 + n) (sealed (plainL d)) ∧ Kept [] w w' := by
  obtain rfl := hd.hlen
  have hg := good_of d hc
  have hb := Blk.new w (dgl d p c) 25
  have hrow := hb.row
  have hhas : hasRow (w.alloc (.cells (dgl d p c).toArray 25)) w.heap.size 11 = true := hb.has
  have hk0 : Kept [] w (w.alloc (.cells (dgl d p c).toArray 25)) := (Kept.refl _ _).alloc _
  have hck0 := rcheck_any d p d.data.length c (w.alloc (.cells (dgl d p c).toArray 25)) (hd.kept hk0)
  rw [hc] at hck0
  have hck := Lib.hid hck0
  have hk0' := Lib.hid hk0
  have hd' := Lib.hid hd
  have hb' := Lib.hid hb
  clear hb hd hc hk0 hck0
  go_enter Try.func12, Try.ntmps12
  go_wp2_with fail
  refine hck.out.mono ?_
  rintro e w1 ⟨rfl, hk⟩
  have hb1 := hk.blk hb'.out (by simp)
  have hrow1 := hb1.row
  have hhas1 : hasRow w1 w.heap.size 11 = true := hb1.has
  have hk01 := hk0'.out.trans0 hk
  clear hb1
  go_wp2_with fail
  refine (rplain_any d p d.data.length c w1 (hd'.out.kept hk01) hf hg).mono ?_
  rintro e w2 ⟨v, rfl, ho, hk2⟩
  obtain ⟨a2, c2, hv, hbt⟩ := ho.bts
  subst hv
  go_wp2_with fail
  refine (rseal_any a2 _ c2 (plainL d) w2 hbt (by unfold plainL; rw [List.length_append, headL_len]; have := hg.len; omega)).mono ?_
  rintro e w3 ⟨v3, rfl, ho3, hk3⟩
  have hk03 := (hk01.trans0 hk2).trans0 hk3
  have ho4 : OwnB w3 w.heap.size v3 (33 + d.data.length) (sealed (plainL d)) := by
    have h : OwnB w3 w2.heap.size v3 (29 + d.data.length + 4) (sealed (plainL d)) := ho3
    rw [show 33 + d.data.length = 29 + d.data.length + 4 by omega]
    exact h.down (hk01.trans0 hk2).size
  clear ho3
  go_wp2
  go_ret2
  exact ⟨v3, rfl, ho4, hk03⟩
end Go.Proofs.Ytpedenaaiinakaa
