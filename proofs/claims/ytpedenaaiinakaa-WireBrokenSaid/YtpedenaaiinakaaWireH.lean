import Derived.Test.YtpedenaaiinakaaWireG
namespace Go.Proofs.Ytpedenaaiinakaa
open Go Go.RowKit
attribute [local go_sem ↓] exec_Dg
attribute [local go_sem] goodPtr_at rowAt_at
theorem byts_1 (x : Nat) : byts x 1 = [lob x] := by simp [byts, tab, List.range, List.range.loop]
theorem byts_2 (x : Nat) : byts x 2 = [lob (x / 256), lob x] := by simp [byts, tab, List.range, List.range.loop]
theorem byts_4 (x : Nat) : byts x 4 = [lob (x / 16777216), lob (x / 65536), lob (x / 256), lob x] := by simp [byts, tab, List.range, List.range.loop]
theorem put16I (v : Value) (k : Nat) (l : List UInt8) (x base : Nat) (X : Int) (w : World) (hown : OwnB w base v k l) (hX : X = (x : Int)) (hb : base ≤ w.heap.size) (hn : k ≤ 1000000) :
    Calls Try.prog 23 #[v, .int .u16 X] w fun e w' => ∃ v', e = .returned v' ∧ OwnB w' base v' (k + 2) (l ++ byts x 2) ∧ Kept [] w w' := by
  subst hX
  obtain ⟨a, c, rfl, hbt⟩ := hown.bts
  have hl := hbt.hlen
  refine (put16_any a k c l x w hbt (by omega)).mono ?_
  rintro e w' ⟨v', rfl, ho, hk⟩
  rw [← byts_2] at ho
  exact ⟨v', rfl, OwnB.down (b := w.heap.size) ho hb, hk⟩
theorem put32I (v : Value) (k : Nat) (l : List UInt8) (x base : Nat) (X : Int) (w : World) (hown : OwnB w base v k l) (hX : X = (x : Int)) (hb : base ≤ w.heap.size) (hn : k ≤ 1000000) :
    Calls Try.prog 24 #[v, .int .u32 X] w fun e w' => ∃ v', e = .returned v' ∧ OwnB w' base v' (k + 4) (l ++ byts x 4) ∧ Kept [] w w' := by
  subst hX
  obtain ⟨a, c, rfl, hbt⟩ := hown.bts
  have hl := hbt.hlen
  refine (put32_any a k c l x w hbt (by omega)).mono ?_
  rintro e w' ⟨v', rfl, ho, hk⟩
  rw [← byts_4] at ho
  exact ⟨v', rfl, OwnB.down (b := w.heap.size) ho hb, hk⟩
theorem bts3 {w : World} {b : Nat} {s0 s1 s2 : UInt8} {T : TypeId} (h : Blk w b [bv s0, bv s1, bv s2] T) : Bts w (some ⟨b, 0, none⟩) 3 3 [s0, s1, s2] :=
  Bts.ofBlk (l := [s0, s1, s2]) (cap := 3) h (by simp) (by unfold maxLen; omega) (fun i hi => by
    match i, hi with
    | 0, _ => rfl
    | 1, _ => rfl
    | 2, _ => rfl)
def wl (d : Dg) : List Nat := [d.sess, d.seq, d.tick, d.a, d.b]
def wrdL (d : Dg) (k : Nat) : List UInt8 := byts 17003 2 ++ byts (d.kind.toNat) 1 ++ byts (d.path.toNat) 1 ++ ((wl d).take k).flatMap fun x => byts x 4
theorem wrdL_0 (d : Dg) : wrdL d 0 = (byts 17003 2) ++ [lob d.kind.toNat, lob d.path.toNat] := by
  simp [wrdL, byts_1]
theorem wrdL_succ (d : Dg) (k : Nat) (hk : k < 5) : wrdL d (k + 1) = wrdL d k ++ byts ((wl d)[k]'hk) 4 := by
  have : k = 0 ∨ k = 1 ∨ k = 2 ∨ k = 3 ∨ k = 4 := by omega
  rcases this with rfl | rfl | rfl | rfl | rfl <;> simp [wrdL, wl]
theorem wrdL_5 (d : Dg) : wrdL d 5 ++ [lob d.k.toNat, lob d.m.toNat, lob d.index.toNat] ++ byts d.data.length 2 = headL d := by
  simp [wrdL, wl, headL, byts_1]
def wlv (d : Dg) : List Value := (wl d).map fun (x : Nat) => .int .u32 x
theorem wl_lt (d : Dg) (hf : DgFits d) (k : Nat) (hk : k < 5) : (wl d)[k]'hk < 4294967296 := by
  have h1 := hf.sess; have h2 := hf.seq; have h3 := hf.tick; have h4 := hf.a; have h5 := hf.b
  have : k = 0 ∨ k = 1 ∨ k = 2 ∨ k = 3 ∨ k = 4 := by omega
  rcases this with rfl | rfl | rfl | rfl | rfl <;> simpa [wl]
set_option maxRecDepth 100000 in
set_option maxHeartbeats 3200000 in
theorem encode_good (t : Nat) (d : Dg) (p : Option Addr) (n c : Nat) (w : World) (hd : Bts w p n c d.data) (hf : DgFits d) (hc : chk d = 0) (ht : Blk w t (tabk 256) 60) :
    Calls Try.prog 10 #[.pointer (some ⟨t, 0, none⟩), .agg (dgl d p c).toArray] w fun e w' => ∃ v, e = .returned (.tuple #[v, .int .i64 0]) ∧ OwnB w' w.heap.size v (33 + n) (sealed (plainL d)) ∧ Kept [] w w' := by
  obtain rfl := hd.hlen
  have hg := good_of d hc
  obtain ⟨g1, g2, g3, g4, g5, g6⟩ := hg
  have ukind : IntKind.u8.wrap d.kind = ((lob d.kind.toNat).toNat : Int) := by rw [IntKind.wrap_u8', lob_nat]; omega
  have upath : IntKind.u8.wrap d.path = ((lob d.path.toNat).toNat : Int) := by rw [IntKind.wrap_u8', lob_nat]; omega
  have uk : IntKind.u8.wrap d.k = ((lob d.k.toNat).toNat : Int) := by rw [IntKind.wrap_u8', lob_nat]; omega
  have um : IntKind.u8.wrap d.m = ((lob d.m.toNat).toNat : Int) := by rw [IntKind.wrap_u8', lob_nat]; omega
  have uindex : IntKind.u8.wrap d.index = ((lob d.index.toNat).toNat : Int) := by rw [IntKind.wrap_u8', lob_nat]; omega
  have ulen : IntKind.u16.wrap (d.data.length : Int) = (d.data.length : Int) := by rw [IntKind.wrap_u16]; omega
  have hb := Blk.new w (dgl d p c) 25
  have hrow := hb.row
  have hhas : hasRow (w.alloc (.cells (dgl d p c).toArray 25)) w.heap.size 11 = true := hb.has
  have hk0 : Kept [] w (w.alloc (.cells (dgl d p c).toArray 25)) := (Kept.refl _ _).alloc _
  have hck0 := check_any d p d.data.length c (w.alloc (.cells (dgl d p c).toArray 25)) (hd.kept hk0)
  rw [hc] at hck0
  have hck := Lib.hid hck0
  have hk0' := Lib.hid hk0
  have hd' := Lib.hid hd
  have hb' := Lib.hid hb
  have ht' := Lib.hid ht
  have hf' := Lib.hid hf
  clear hb hd hc hk0 hck0 ht hf
  go_enter Try.func10, Try.ntmps10
  go_wp2_with fail
  refine hck.out.mono ?_
  rintro e w1 ⟨rfl, hk1⟩
  clear hrow hhas
  have bl1 : Below (w.heap.size + 1) (w.alloc (.cells (dgl d p c).toArray 25)) w1 := Below.ofKept hk1 (by simp)
  have hsz1 : w.heap.size + 1 ≤ w1.heap.size := by have := hk1.size; simpa using this
  have own0 : OwnB w1 (w.heap.size + 1) (.slice none 0 0) 0 [] := World.ownsRow_nil _ _ _ 1
  go_wp2_with fail
  refine (put16I _ 0 _ 17003 (w.heap.size + 1) _ _ own0 (by omega) hsz1 (by omega)).mono ?_
  rintro e w2 ⟨v2, rfl, o2, hk2⟩
  have hk02 := hk1.trans0 hk2
  have hb2 := hk02.blk hb'.out (by simp)
  have c1 := hb2.cell (show (dgl d p c)[0]? = some (.int .i64 d.kind) from rfl)
  have c2 := hb2.cell (show (dgl d p c)[3]? = some (.int .i64 d.path) from rfl)
  have hsz2 : w.heap.size + 1 ≤ w2.heap.size := Nat.le_trans hsz1 hk2.size
  clear hb2
  go_wp2_with (at_builtin; refine wpList_appB rfl (.tmp 16) (.tmp 23) rfl (w.heap.size + 1) v2 2 _ rfl (o2.kept ((Kept.refl _ _).alloc _)) (some ⟨w2.heap.size, 0, none⟩) 2 2 [lob d.kind.toNat, lob d.path.toNat] rfl ?_ (by omega) (by simp; omega) ?_)
  · exact bts2 (Blk.new' _ _ _)
  intro v3 w3 o3 bl3
  have hk03 : Kept [] (w.alloc (.cells (dgl d p c).toArray 25)) w3 := (hk02.alloc _).below bl3 (by simp)
  have hsz3 : w.heap.size + 1 ≤ w3.heap.size := by have := hk03.size; simpa using this
  have hb3 := hk03.blk hb'.out (by simp)
  have c1 := hb3.cell (show (dgl d p c)[1]? = some (.int .u32 d.sess) from rfl)
  have c2 := hb3.cell (show (dgl d p c)[2]? = some (.int .u32 d.seq) from rfl)
  have c3 := hb3.cell (show (dgl d p c)[4]? = some (.int .u32 d.tick) from rfl)
  have c4 := hb3.cell (show (dgl d p c)[5]? = some (.int .u32 d.a) from rfl)
  have c5 := hb3.cell (show (dgl d p c)[6]? = some (.int .u32 d.b) from rfl)
  clear hb3
  have hk03' := Lib.hid hk03
  clear hk03 bl3 hk1 hk2 hk02 o2 own0 bl1
  go_wp2
  go_loopw [7, 37] (fun v i wr => ∃ k : Nat, k ≤ 5 ∧ i = .int .i64 k ∧ OwnB wr (w.heap.size + 1) v (4 + 4 * k) (wrdL d k) ∧ Blk wr w3.heap.size (wlv d) 22 ∧ Kept [] w3 wr) (fun _ i _ => 5 - (intOf i).toNat)
  case atStart => exact ⟨0, by omega, rfl, by rw [wrdL_0]; exact o3.kept ((Kept.refl _ _).alloc _), Blk.new' _ _ _, (Kept.refl _ _).alloc _⟩
  case round =>
    obtain ⟨k, hk, rfl, ho, hbw, hkw⟩ := hrel
    clear o3 c1 c2 c3 c4 c5
    have hsw : w.heap.size + 1 ≤ _ := Nat.le_trans hsz3 hkw.size
    by_cases hk8 : k < 5
    · have hlt := wl_lt d hf'.out k hk8
      have hc := hbw.cell (show (wlv d)[k]? = some (.int .u32 (((wl d)[k]'hk8 : Nat) : Int)) by unfold wlv; rw [List.getElem?_map, List.getElem?_eq_getElem (show k < (wl d).length from hk8)]; rfl)
      go_wp2_with fail
      refine (put32I _ (4 + 4 * k) _ ((wl d)[k]'hk8) (w.heap.size + 1) _ _ ho rfl hsw (by omega)).mono ?_
      rintro e w4 ⟨v4, rfl, o4, hk4⟩
      go_wp2
      go_roundw
      case rel => exact ⟨k + 1, by omega, by go_num, by rw [wrdL_succ d k hk8]; exact o4, hk4.blk hbw (by simp), hkw.trans0 hk4⟩
      case measure => simp [intOf] <;> omega
    · obtain rfl : k = 5 := by omega
      have hk05 := hk03'.out.trans0 hkw
      have hb5 := hk05.blk hb'.out (by simp)
      have c1 := hb5.cell (show (dgl d p c)[7]? = some (.int .i64 d.k) from rfl)
      have c2 := hb5.cell (show (dgl d p c)[8]? = some (.int .i64 d.m) from rfl)
      have c3 := hb5.cell (show (dgl d p c)[9]? = some (.int .i64 d.index) from rfl)
      clear hb5 hbw
      go_wp2_with (at_builtin; refine wpList_appB rfl (.tmp 45) (.tmp 55) rfl (w.heap.size + 1) _ 24 (wrdL d 5) rfl (ho.kept ((Kept.refl _ _).alloc _)) (some ⟨_, 0, none⟩) 3 3 [lob d.k.toNat, lob d.m.toNat, lob d.index.toNat] rfl ?_ (by omega) (by simp; omega) ?_)
      · exact bts3 (Blk.new' _ _ _)
      intro v6 w6 o6 bl6
      have hk06 := (hk05.alloc _).below bl6 (by simp)
      have hb6 := hk06.blk hb'.out (by simp)
      have hsz6 : w.heap.size + 1 ≤ w6.heap.size := by have := hk06.size; simpa using this
      clear c1 c2 c3
      have c10 := hb6.cell (show (dgl d p c)[10]? = some (.slice p d.data.length c) from rfl)
      clear hb6 bl6
      go_wp2_with fail
      refine (put16I _ 27 _ d.data.length (w.heap.size + 1) _ _ o6 rfl hsz6 (by omega)).mono ?_
      rintro e w7 ⟨v7, rfl, o7, hk7⟩
      have hk07 := hk06.trans0 hk7
      have hb7 := hk07.blk hb'.out (by simp)
      have hsz7 := Nat.le_trans hsz6 hk7.size
      clear c10
      have c10 := hb7.cell (show (dgl d p c)[10]? = some (.slice p d.data.length c) from rfl)
      clear hb7
      rw [wrdL_5] at o7
      have hkw7 := hk0'.out.trans0 hk07
      go_wp2_with (at_builtin; refine wpList_appB rfl (.tmp 64) (.tmp 66) rfl (w.heap.size + 1) v7 29 (headL d) rfl o7 p d.data.length c d.data rfl (hd'.out.kept hkw7) (by omega) hsz7 ?_)
      intro v8 w8 o8 bl8
      have hkw8 := hkw7.below bl8 (by omega)
      obtain ⟨a8, c8, rfl, hbt⟩ := o8.bts
      have ht8 := hkw8.blk ht'.out (by simp)
      go_wp2_with fail
      refine (seal_any t a8 _ c8 (plainL d) w8 hbt (by unfold plainL; rw [List.length_append, headL_len]; omega) ht8).mono ?_
      rintro e w9 ⟨v9, rfl, o9, hk9⟩
      have o9' : OwnB w9 w8.heap.size v9 (29 + d.data.length + 4) (sealed (plainL d)) := o9
      have hkw9 := hkw8.trans0 hk9
      rw [show 29 + d.data.length + 4 = 33 + d.data.length by omega] at o9'
      have o10 := o9'.down (hkw8.size)
      clear o9 o9' o8 hbt
      go_wp2
      go_ret2
      exact ⟨v9, rfl, o10, hkw9⟩
end Go.Proofs.Ytpedenaaiinakaa
