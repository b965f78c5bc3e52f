import Derived.Test.YtpedenaaiinakaaWireE
import Derived.Test.YtpedenaaiinakaaWireD
namespace Go.Proofs.Ytpedenaaiinakaa
open Go Go.RowKit
/-- The bytes ahead of the seal, but for the data. -/
def headL (d : Dg) : List UInt8 := byts 17003 2 ++ byts (d.kind.toNat) 1 ++ byts (d.path.toNat) 1 ++ byts (d.sess) 4 ++ byts (d.seq) 4 ++ byts (d.tick) 4 ++ byts (d.a) 4 ++ byts (d.b) 4 ++ byts (d.k.toNat) 1 ++ byts (d.m.toNat) 1 ++ byts (d.index.toNat) 1 ++ byts (d.data.length) 2
def plainL (d : Dg) : List UInt8 := headL d ++ d.data
theorem headL_len (d : Dg) : (headL d).length = 29 := by
  simp only [headL, List.length_append, byts_len]
/-- What a datagram that may be is. -/
structure Good (d : Dg) : Prop where
  kind : 1 ≤ d.kind ∧ d.kind ≤ 8
  path : 0 ≤ d.path ∧ d.path ≤ 1
  k : 0 ≤ d.k ∧ d.k ≤ 16
  m : 0 ≤ d.m ∧ d.m ≤ 16
  index : 0 ≤ d.index ∧ d.index ≤ 32
  len : d.data.length ≤ 1200
theorem good_of (d : Dg) (h : chk d = 0) : Good d := by
  unfold chk at h
  split at h
  · cases h
  · rename_i h1
    split at h
    · cases h
    · rename_i h2
      have hf : formP d := by
        have : ¬ formB d = false := fun e => h2 (.inr (.inr e))
        unfold formB at this
        simpa using this
      unfold formP at hf
      split at hf
      · unfold shardP at hf
        obtain ⟨f1, f2, f3, f4, f5, f6, f7, f8⟩ := hf
        refine ⟨by omega, by omega, by omega, by omega, ?_, f6⟩
        by_cases hk : d.kind = 2
        · have := f7 hk; omega
        · have := f8 hk; omega
      · obtain ⟨⟨z1, z2, z3⟩, hr⟩ := hf
        refine ⟨by omega, by omega, by omega, by omega, by omega, ?_⟩
        split at hr
        · have := hr.2.2.1; omega
        · split at hr
          · omega
          · split at hr
            · omega
            · split at hr <;> omega
set_option maxRecDepth 100000 in
set_option maxHeartbeats 3200000 in
theorem rplain_any (d : Dg) (p : Option Addr) (n c : Nat) (w : World) (hd : Bts w p n c d.data) (hf : DgFits d) (hg : Good d) :
    Calls Try.prog 28 #[.agg (dgl d p c).toArray] w fun e w' => ∃ v, e = .returned v ∧ OwnB w' w.heap.size v (29 + n) (plainL d) ∧ Kept [] w w' := by
  obtain rfl := hd.hlen
  have hb := Blk.new w (dgl d p c) 25
  obtain ⟨g1, g2, g3, g4, g5, g6⟩ := hg
  have ukind : IntKind.u64.wrap d.kind = ((d.kind.toNat : Nat) : Int) := by rw [IntKind.wrap_u64]; omega
  have upath : IntKind.u64.wrap d.path = ((d.path.toNat : Nat) : Int) := by rw [IntKind.wrap_u64]; omega
  have uk : IntKind.u64.wrap d.k = ((d.k.toNat : Nat) : Int) := by rw [IntKind.wrap_u64]; omega
  have um : IntKind.u64.wrap d.m = ((d.m.toNat : Nat) : Int) := by rw [IntKind.wrap_u64]; omega
  have uindex : IntKind.u64.wrap d.index = ((d.index.toNat : Nat) : Int) := by rw [IntKind.wrap_u64]; omega
  have usess : IntKind.u64.wrap (d.sess : Int) = (d.sess : Int) := by have := hf.sess; rw [IntKind.wrap_u64]; omega
  have lsess := hf.sess
  have useq : IntKind.u64.wrap (d.seq : Int) = (d.seq : Int) := by have := hf.seq; rw [IntKind.wrap_u64]; omega
  have lseq := hf.seq
  have utick : IntKind.u64.wrap (d.tick : Int) = (d.tick : Int) := by have := hf.tick; rw [IntKind.wrap_u64]; omega
  have ltick := hf.tick
  have ua : IntKind.u64.wrap (d.a : Int) = (d.a : Int) := by have := hf.a; rw [IntKind.wrap_u64]; omega
  have la := hf.a
  have ub : IntKind.u64.wrap (d.b : Int) = (d.b : Int) := by have := hf.b; rw [IntKind.wrap_u64]; omega
  have lb := hf.b
  have ulen : IntKind.u64.wrap (d.data.length : Int) = (d.data.length : Int) := by rw [IntKind.wrap_u64]; omega
  have own0 : OwnB (w.alloc (.cells (dgl d p c).toArray 25)) w.heap.size (.slice none 0 0) 0 [] := World.ownsRow_nil _ _ _ 1
  have hk0 : Kept [] w (w.alloc (.cells (dgl d p c).toArray 25)) := (Kept.refl _ _).alloc _
  have bl0 : Below (w.heap.size + 1) (w.alloc (.cells (dgl d p c).toArray 25)) (w.alloc (.cells (dgl d p c).toArray 25)) := Below.refl _ _
  have hsz0 : w.heap.size + 1 ≤ (w.alloc (.cells (dgl d p c).toArray 25)).heap.size := by simp
  have hnew : ∀ w', Below (w.heap.size + 1) (w.alloc (.cells (dgl d p c).toArray 25)) w' → Blk w' w.heap.size (dgl d p c) 25 := fun w' h => by
    have h2 := h.block w.heap.size (by omega)
    unfold Blk at *
    rw [h2]; exact hb
  have HN := Lib.hid hnew
  have HF := Lib.hid hd
  clear hb hnew hd hf
  have own0' : OwnB (w.alloc (.cells (dgl d p c).toArray 25)) (w.heap.size + 1) (.slice none 0 0) 0 [] := World.ownsRow_nil _ _ _ 1
  clear own0
  go_enter Try.func28, Try.ntmps28
  go_wp2_with fail
  refine (rputI _ 0 _ 17003 2 (w.heap.size + 1) _ _ _ own0' (by omega) (by omega) (by omega) (by omega) (Nat.le_trans hsz0 bl0.size) (by omega)).mono ?_
  rintro e w1 ⟨v1, rfl, o1, b1⟩
  have bl1 := bl0.trans b1
  have c1 := (HN.out _ bl1).cell (show (dgl d p c)[0]? = some (.int .i64 d.kind) from rfl)
  go_wp2_with fail
  refine (rputI _ 2 _ (d.kind.toNat) 1 (w.heap.size + 1) _ _ _ o1 (by omega) (by omega) (by omega) (by omega) (Nat.le_trans hsz0 bl1.size) (by omega)).mono ?_
  rintro e w2 ⟨v2, rfl, o2, b2⟩
  have bl2 := bl1.trans b2
  clear c1
  have c2 := (HN.out _ bl2).cell (show (dgl d p c)[3]? = some (.int .i64 d.path) from rfl)
  go_wp2_with fail
  refine (rputI _ 3 _ (d.path.toNat) 1 (w.heap.size + 1) _ _ _ o2 (by omega) (by omega) (by omega) (by omega) (Nat.le_trans hsz0 bl2.size) (by omega)).mono ?_
  rintro e w3 ⟨v3, rfl, o3, b3⟩
  have bl3 := bl2.trans b3
  clear c2
  have c3 := (HN.out _ bl3).cell (show (dgl d p c)[1]? = some (.int .u32 d.sess) from rfl)
  go_wp2_with fail
  refine (rputI _ 4 _ (d.sess) 4 (w.heap.size + 1) _ _ _ o3 (by omega) (by omega) (by omega) (by omega) (Nat.le_trans hsz0 bl3.size) (by omega)).mono ?_
  rintro e w4 ⟨v4, rfl, o4, b4⟩
  have bl4 := bl3.trans b4
  clear c3
  have c4 := (HN.out _ bl4).cell (show (dgl d p c)[2]? = some (.int .u32 d.seq) from rfl)
  go_wp2_with fail
  refine (rputI _ 8 _ (d.seq) 4 (w.heap.size + 1) _ _ _ o4 (by omega) (by omega) (by omega) (by omega) (Nat.le_trans hsz0 bl4.size) (by omega)).mono ?_
  rintro e w5 ⟨v5, rfl, o5, b5⟩
  have bl5 := bl4.trans b5
  clear c4
  have c5 := (HN.out _ bl5).cell (show (dgl d p c)[4]? = some (.int .u32 d.tick) from rfl)
  go_wp2_with fail
  refine (rputI _ 12 _ (d.tick) 4 (w.heap.size + 1) _ _ _ o5 (by omega) (by omega) (by omega) (by omega) (Nat.le_trans hsz0 bl5.size) (by omega)).mono ?_
  rintro e w6 ⟨v6, rfl, o6, b6⟩
  have bl6 := bl5.trans b6
  clear c5
  have c6 := (HN.out _ bl6).cell (show (dgl d p c)[5]? = some (.int .u32 d.a) from rfl)
  go_wp2_with fail
  refine (rputI _ 16 _ (d.a) 4 (w.heap.size + 1) _ _ _ o6 (by omega) (by omega) (by omega) (by omega) (Nat.le_trans hsz0 bl6.size) (by omega)).mono ?_
  rintro e w7 ⟨v7, rfl, o7, b7⟩
  have bl7 := bl6.trans b7
  clear c6
  have c7 := (HN.out _ bl7).cell (show (dgl d p c)[6]? = some (.int .u32 d.b) from rfl)
  go_wp2_with fail
  refine (rputI _ 20 _ (d.b) 4 (w.heap.size + 1) _ _ _ o7 (by omega) (by omega) (by omega) (by omega) (Nat.le_trans hsz0 bl7.size) (by omega)).mono ?_
  rintro e w8 ⟨v8, rfl, o8, b8⟩
  have bl8 := bl7.trans b8
  clear c7
  have c8 := (HN.out _ bl8).cell (show (dgl d p c)[7]? = some (.int .i64 d.k) from rfl)
  go_wp2_with fail
  refine (rputI _ 24 _ (d.k.toNat) 1 (w.heap.size + 1) _ _ _ o8 (by omega) (by omega) (by omega) (by omega) (Nat.le_trans hsz0 bl8.size) (by omega)).mono ?_
  rintro e w9 ⟨v9, rfl, o9, b9⟩
  have bl9 := bl8.trans b9
  clear c8
  have c9 := (HN.out _ bl9).cell (show (dgl d p c)[8]? = some (.int .i64 d.m) from rfl)
  go_wp2_with fail
  refine (rputI _ 25 _ (d.m.toNat) 1 (w.heap.size + 1) _ _ _ o9 (by omega) (by omega) (by omega) (by omega) (Nat.le_trans hsz0 bl9.size) (by omega)).mono ?_
  rintro e w10 ⟨v10, rfl, o10, b10⟩
  have bl10 := bl9.trans b10
  clear c9
  have c10 := (HN.out _ bl10).cell (show (dgl d p c)[9]? = some (.int .i64 d.index) from rfl)
  go_wp2_with fail
  refine (rputI _ 26 _ (d.index.toNat) 1 (w.heap.size + 1) _ _ _ o10 (by omega) (by omega) (by omega) (by omega) (Nat.le_trans hsz0 bl10.size) (by omega)).mono ?_
  rintro e w11 ⟨v11, rfl, o11, b11⟩
  have bl11 := bl10.trans b11
  clear c10
  have c11 := (HN.out _ bl11).cell (show (dgl d p c)[10]? = some (.slice p d.data.length c) from rfl)
  go_wp2_with fail
  refine (rputI _ 27 _ (d.data.length) 2 (w.heap.size + 1) _ _ _ o11 (by omega) (by omega) (by omega) (by omega) (Nat.le_trans hsz0 bl11.size) (by omega)).mono ?_
  rintro e w12 ⟨v12, rfl, o12, b12⟩
  have bl12 := bl11.trans b12
  clear c11
  have cl := (HN.out _ bl12).cell (show (dgl d p c)[10]? = some (.slice p d.data.length c) from rfl)
  have hkk : Kept [] w w12 := hk0.below bl12 (by omega)
  go_wp2_with (at_builtin; refine wpList_appB rfl (.tmp 61) (.tmp 63) rfl (w.heap.size + 1) v12 29 (headL d) rfl ?_ p d.data.length c d.data rfl ?_ ?_ ?_ ?_)
  · simpa [headL, List.append_assoc] using o12
  · exact HF.out.kept hkk
  · omega
  · exact Nat.le_trans hsz0 bl12.size
  · intro vf wf of_ bf
    go_wp2
    go_ret
    exact ⟨vf, rfl, of_.down (by omega), hkk.below bf (by omega)⟩
end Go.Proofs.Ytpedenaaiinakaa
