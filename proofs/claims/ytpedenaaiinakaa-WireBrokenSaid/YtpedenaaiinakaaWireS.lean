import Derived.Test.YtpedenaaiinakaaWireR
namespace Go.Proofs.Ytpedenaaiinakaa
open Go Go.RowKit
theorem rdecode_any (s : Nat) (a : Option Addr) (n c : Nat) (l : List UInt8) (w : World) (hl : Bts w a n c l) (hs : s < 4294967296) :
    Calls Try.prog 20 #[.int .u32 s, .slice a n c] w fun e w' => ∃ p c', e = .returned (.tuple #[.agg (dgl (decD s l) p c').toArray, .int .i64 (decE s l)]) ∧ Bts w' p (decD s l).data.length c' (decD s l).data ∧ Kept [] w w' := by
  have hn := hl.hlen
  by_cases h1 : 1400 < n
  · have hE : decE s l = 2 := by unfold decE; rw [if_pos (by omega)]
    have hD : decD s l = dg0 := by unfold decD; rw [hE]; rfl
    rw [hE, hD]
    refine (rdecode_long s a n c w h1).mono ?_
    rintro e w' ⟨rfl, hk⟩
    exact ⟨none, 0, rfl, bts_none _, hk⟩
  · by_cases h2 : n < 33
    · have hE : decE s l = 70 := by unfold decE; rw [if_neg (by omega), if_pos (by omega)]
      have hD : decD s l = dg0 := by unfold decD; rw [hE]; rfl
      rw [hE, hD]
      refine (rdecode_short s a n c w h2).mono ?_
      rintro e w' ⟨rfl, hk⟩
      exact ⟨none, 0, rfl, bts_none _, hk⟩
    · obtain ⟨o, s0, s1, s2, s3, rfl⟩ := split4 l (by omega)
      have hlen : (o ++ [s0, s1, s2, s3]).length = o.length + 4 := by simp
      have ht4 : (o ++ [s0, s1, s2, s3]).take ((o ++ [s0, s1, s2, s3]).length - 4) = o := by rw [hlen, Nat.add_sub_cancel, List.take_left' rfl]
      have hiff := le4_beg s0 s1 s2 s3 _ (mor_lt 0 o)
      by_cases hg : beg [s3, s2, s1, s0] = mor 0 o
      · have hE : decE s (o ++ [s0, s1, s2, s3]) = opE s o := by unfold decE; rw [if_neg (by omega), if_neg (by omega), ht4, if_pos ((sealed_iff _ _ _ _ _).2 hg)]
        have hD : decD s (o ++ [s0, s1, s2, s3]) = if opE s o = 0 then rdD o else dg0 := by unfold decD; rw [hE, ht4]
        rw [hE, hD]
        refine (rdecode_body s a n o.length c o [s0, s1, s2, s3] w hl rfl rfl (by omega) (by omega) (by omega) hs (hiff.2 hg)).mono ?_
        rintro e w' ⟨d, p, c', rfl, rfl, hb, hk⟩
        exact ⟨p, c', rfl, hb, hk⟩
      · have hE : decE s (o ++ [s0, s1, s2, s3]) = 20 := by unfold decE; rw [if_neg (by omega), if_neg (by omega), ht4, if_neg (fun h => hg ((sealed_iff _ _ _ _ _).1 h))]
        have hD : decD s (o ++ [s0, s1, s2, s3]) = dg0 := by unfold decD; rw [hE]; rfl
        rw [hE, hD]
        refine (rdecode_sum s a n o.length c o [s0, s1, s2, s3] w hl rfl rfl (by omega) (by omega) (by omega) (fun h => hg (hiff.1 h))).mono ?_
        rintro e w' ⟨rfl, hk⟩
        exact ⟨none, 0, rfl, bts_none _, hk⟩
/-- Datagrams alike: fields and bytes. -/
theorem dgl_data_eq (d : Dg) : d = { kind := d.kind, sess := d.sess, seq := d.seq, path := d.path, tick := d.tick, a := d.a, b := d.b, k := d.k, m := d.m, index := d.index, data := d.data } := rfl
set_option maxRecDepth 100000 in
set_option maxHeartbeats 3200000 in
theorem dsame_eq (d : Dg) (p q : Option Addr) (c cq : Nat) (w : World) (hp : Bts w p d.data.length c d.data) (hq : Bts w q d.data.length cq d.data) :
    Calls Try.prog 21 #[.agg (dgl d p c).toArray, .agg (dgl d q cq).toArray] w fun e w' => e = .returned (.bool true) ∧ Kept [] w w' := by
  have hb1 := Blk.new w (dgl d p c) 25
  have hb2 := Blk.new (w.alloc (.cells (dgl d p c).toArray 25)) (dgl d q cq) 25
  have hb3 := hb1.alloc (.cells (dgl d q cq).toArray 25)
  have hs : (w.alloc (.cells (dgl d p c).toArray 25)).heap.size = w.heap.size + 1 := by simp
  rw [hs] at hb2
  have hk : Kept [] w ((w.alloc (.cells (dgl d p c).toArray 25)).alloc (.cells (dgl d q cq).toArray 25)) := ((Kept.refl _ _).alloc _).alloc _
  have c0 := hb3.cell (show (dgl d p c)[0]? = some (.int .i64 d.kind) from rfl)
  have f0 := hb2.cell (show (dgl d q cq)[0]? = some (.int .i64 d.kind) from rfl)
  have c1 := hb3.cell (show (dgl d p c)[1]? = some (.int .u32 d.sess) from rfl)
  have f1 := hb2.cell (show (dgl d q cq)[1]? = some (.int .u32 d.sess) from rfl)
  have c2 := hb3.cell (show (dgl d p c)[2]? = some (.int .u32 d.seq) from rfl)
  have f2 := hb2.cell (show (dgl d q cq)[2]? = some (.int .u32 d.seq) from rfl)
  have c3 := hb3.cell (show (dgl d p c)[3]? = some (.int .i64 d.path) from rfl)
  have f3 := hb2.cell (show (dgl d q cq)[3]? = some (.int .i64 d.path) from rfl)
  have c4 := hb3.cell (show (dgl d p c)[4]? = some (.int .u32 d.tick) from rfl)
  have f4 := hb2.cell (show (dgl d q cq)[4]? = some (.int .u32 d.tick) from rfl)
  have c5 := hb3.cell (show (dgl d p c)[5]? = some (.int .u32 d.a) from rfl)
  have f5 := hb2.cell (show (dgl d q cq)[5]? = some (.int .u32 d.a) from rfl)
  have c6 := hb3.cell (show (dgl d p c)[6]? = some (.int .u32 d.b) from rfl)
  have f6 := hb2.cell (show (dgl d q cq)[6]? = some (.int .u32 d.b) from rfl)
  have c7 := hb3.cell (show (dgl d p c)[7]? = some (.int .i64 d.k) from rfl)
  have f7 := hb2.cell (show (dgl d q cq)[7]? = some (.int .i64 d.k) from rfl)
  have c8 := hb3.cell (show (dgl d p c)[8]? = some (.int .i64 d.m) from rfl)
  have f8 := hb2.cell (show (dgl d q cq)[8]? = some (.int .i64 d.m) from rfl)
  have c9 := hb3.cell (show (dgl d p c)[9]? = some (.int .i64 d.index) from rfl)
  have f9 := hb2.cell (show (dgl d q cq)[9]? = some (.int .i64 d.index) from rfl)
  have c10 := hb3.cell (show (dgl d p c)[10]? = some (.slice p d.data.length c) from rfl)
  have f10 := hb2.cell (show (dgl d q cq)[10]? = some (.slice q d.data.length cq) from rfl)
  have hS := Lib.hid (same_any p q _ _ c cq d.data d.data _ (hp.kept hk) (hq.kept hk))
  have hk' := Lib.hid hk
  clear hb1 hb2 hb3 hs hp hq hk
  go_enter Try.func21, Try.ntmps21
  go_wp2_with fail
  refine hS.out.mono ?_
  rintro e w1 ⟨he, k, rfl⟩
  simp at he
  subst he
  go_wp2
  go_ret
  exact ⟨rfl, hk'.out.drewN _⟩
end Go.Proofs.Ytpedenaaiinakaa
