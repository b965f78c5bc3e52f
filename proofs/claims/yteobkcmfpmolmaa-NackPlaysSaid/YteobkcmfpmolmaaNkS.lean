/- The document's nack: Wait. -/
import Derived.Test.YteobkcmfpmolmaaNkR
import Derived.Stop.RegionWithIn
namespace Go.Proofs.Yteobkcmfpmolmaa
open Go Go.RowKit
theorem blk_neT {w : World} {b : Nat} {xs ys : List Value} {S T : TypeId} (h : Blk w b xs S) (k : Blk w b ys T) (hT : S ≠ T) : False := by
  unfold Blk at *
  rw [h] at k
  simp only [Option.some.injEq, Obj.cells.injEq] at k
  exact hT k.2.1
/-- What the document leaves. -/
def LsP (w : World) (room asked full : Int) (r : List It) (e : Ending) (w' : World) : Prop :=
  ∃ a n c, e = .returned (.agg #[.int .i64 room, .int .i64 asked, .int .i64 full, .slice a n c]) ∧ r.length = n ∧ n ≤ c ∧ L3 w' 56 a r ∧ Kept [] w w'
theorem rheld_any (n : Int) (w : World) : Calls Try.prog 30 #[.int .i64 n] w fun e w' => e = .returned (.int .i64 (heldN n)) ∧ w = w' := by
  have h := hx (show min (max n 1) 4096 = heldN n from rfl)
  go_enter Try.func30, Try.ntmps30
  go_wp2
  all_goals
    go_ret
    refine ⟨ret_int ?_, rfl⟩
    rw [← h.out]
    try ((repeat' split at *) <;> omega)
/-- The list then, and how often there was no room. -/
def waitR (room full : Int) (l : List It) (k t : Int) : List It × Int :=
  if hasN k l = true then (l, full) else if room ≤ l.length then (l, full + 1) else (putN (k, heldN t, 0) l, full)
set_option maxRecDepth 100000 in
set_option maxHeartbeats 12000000 in
theorem rwait_any (a : Option Addr) (n c : Nat) (l : List It) (room asked full k t : Int) (w : World) (hl : L3 w 56 a l) (hn : l.length = n) (hc : n ≤ c) (h100 : n ≤ 1000) (hf0 : 0 ≤ full) (hf1 : full ≤ 1000000000) :
    Calls Try.prog 15 #[.agg #[.int .i64 room, .int .i64 asked, .int .i64 full, .slice a n c], .int .u32 k, .int .i64 t] w (LsP w room asked (waitR room full l k t).2 (waitR room full l k t).1) := by
  have hz := zeroRList
  have P0 := hx (show Bx2 w ((w.alloc (.cells #[.int .i64 room, .int .i64 asked, .int .i64 full, .slice a n c] 27)).alloc (.cells #[.int .i64 0, .int .i64 0, .int .i64 0, .slice none 0 0] 27)) 27 (ls4 room asked full (.slice a n c)) (ls4 0 0 0 (.slice none 0 0)) from Bx2.new w 27 (ls4 room asked full (.slice a n c)) (ls4 0 0 0 (.slice none 0 0)))
  have HL := hx hl
  have HN := hx hn
  have HC := hx hc
  have HH := hx (fun w1 (hk : Kept [] w w1) => rhas_any a n c l room asked full k w1 (hl.kept hk) hn h100)
  have HHD := hx (fun w => rheld_any t w)
  have HPU := hx (fun w1 (hk : Kept [] w w1) => rput_any a n c l k (heldN t) 0 w1 (hl.kept hk) hn h100)
  have hwf : IntKind.i64.wrap (full + 1) = full + 1 := by rw [IntKind.wrap_i64]; omega
  have HHE := hx hwf
  have HWR := hx (show waitR room full l k t = if hasN k l = true then (l, full) else if room ≤ l.length then (l, full + 1) else (putN (k, heldN t, 0) l, full) from rfl)
  generalize hPP : LsP w room asked (waitR room full l k t).2 (waitR room full l k t).1 = PP at *
  have HPP := hx hPP
  clear hl hn hc hf0 hf1 hwf hPP
  go_enter Try.func15, Try.ntmps15
  go_upto_region 1 with fail
  generalize (w.alloc (.cells #[.int .i64 room, .int .i64 asked, .int .i64 full, .slice a n c] 27)).alloc (.cells #[.int .i64 0, .int .i64 0, .int .i64 0, .slice none 0 0] 27) = W0 at *
  clear hz
  have HH0 := hx (HH.out W0 P0.out.k)
  clear HH
  cases hb : hasN k l
  · rw [hb] at HH0
    by_cases hr : room ≤ (n : Int)
    · have hrd := decide_eq_true hr
      have HW2 := hx (show waitR room full l k t = (l, full + 1) by rw [HWR.out, if_neg (by simp [hb]), if_pos (by rw [HN.out]; exact hr)])
      clear HWR hb hr HPU HHD
      go_wp2_with (refine load_blk rfl 27 (.tmp 3) rfl w.heap.size rfl 27 _ _ P0.out.b0 Try.underlying27 rfl infoList ?_)
      refine HH0.out.mono ?_
      rintro e w1 ⟨rfl, hk1⟩
      have P1 := hx (P0.out.kept hk1)
      clear hk1 HH0 P0
      have c0 := P1.out.b0.cell (i := 0) rfl
      have c2 := P1.out.b0.cell (i := 2) rfl
      have c3 := P1.out.b0.cell (i := 3) rfl
      have f0 := P1.out.b0.free
      have hwf := HHE.out
      go_upto_region 5 with fail
      have B0 := hx (P1.out.b0.set 2 (.int .i64 (full + 1)))
      have B1 := hx (P1.out.b1.set_ne (a := ⟨w.heap.size, 2, none⟩) (by simp) (.int .i64 (full + 1)))
      have K1 := hx (P1.out.k.setCell (p := ⟨w.heap.size, 2, none⟩) (.inr (by simp)) (.int .i64 (full + 1)))
      clear c0 c2 c3 f0 hwf P1
      generalize World.setCell _ _ _ = W2 at *
      go_wp2_with (first
        | refine load_blk rfl 27 (.tmp 3) rfl w.heap.size rfl 27 _ _ B0.out Try.underlying27 rfl infoList ?_
        | (refine store_blk rfl 27 (.tmp 6) (.tmp 21) rfl (w.heap.size + 1) rfl 27 _ (ls4 room asked (full + 1) (.slice a n c)) rfl B1.out rfl infoList (by intro x hx; simp at hx; rcases hx with rfl | rfl | rfl | rfl <;> rfl) ?_
           intro w9 hb9 hk9))
      refine bodyPost_ret (ret_blk rfl _ (w.heap.size + 1) _ _ _ rfl hb9 Try.underlying27 rfl infoList) rfl ?_
      rw [← HPP.out, HW2.out]
      have hk := K1.out.trans hk9 (fun _ h => h) (fun x h => by simp at h; right; omega)
      exact ⟨a, n, c, rfl, HN.out, HC.out, HL.out.kept hk, hk⟩
    · have hrd := decide_eq_false hr
      have HW2 := hx (show waitR room full l k t = (putN (k, heldN t, 0) l, full) by rw [HWR.out, if_neg (by simp [hb]), if_neg (by rw [HN.out]; exact hr)])
      clear HWR hb hr
      go_wp2_with (refine load_blk rfl 27 (.tmp 3) rfl w.heap.size rfl 27 _ _ P0.out.b0 Try.underlying27 rfl infoList ?_)
      refine HH0.out.mono ?_
      rintro e w1 ⟨rfl, hk1⟩
      have P1 := hx (P0.out.kept hk1)
      clear hk1 HH0 P0
      have c0 := P1.out.b0.cell (i := 0) rfl
      have c3 := P1.out.b0.cell (i := 3) rfl
      go_upto_region 6 with fail
      have HP2 := hx (HPU.out w1.drew (P1.out.k.trans0 (Kept.refl [] w1).drew))
      have P2 := hx (P1.out.kept ((Kept.refl [] w1).drew))
      clear HPU P1
      go_region_with (first | (go_at_call 30; refine (HHD.out _).mono ?_; rintro e w4 ⟨rfl, rfl⟩) | (go_at_call 29; refine HP2.out.mono ?_; rintro e w5 ⟨a5, n5, c5, rfl, hn5, hc5, hl5, hk5⟩; have HN5 := hx (And.intro hn5 hc5); have HL5 := hx hl5; have P5 := hx (P2.out.kept hk5); clear hn5 hc5 hl5 hk5; have d3 := P5.out.b0.cell (i := 3) rfl; have df := P5.out.b0.free))
      all_goals
        have B0 := hx (P5.out.b0.set 3 (.slice a5 n5 c5))
        have B1 := hx (P5.out.b1.set_ne (a := ⟨w.heap.size, 3, none⟩) (by simp) (.slice a5 n5 c5))
        have K1 := hx (P5.out.k.setCell (p := ⟨w.heap.size, 3, none⟩) (.inr (by simp)) (.slice a5 n5 c5))
        have L1 := hx (HL5.out.frame ((Kept.refl [w.heap.size] w5).setCell (p := ⟨w.heap.size, 3, none⟩) (.inl (by simp)) (.slice a5 n5 c5)) (fun b hb xs hB => by simp at hb; subst hb; exact blk_neT P5.out.b0 hB (by decide)))
        clear c0 c3 d3 df P5 P2
        generalize World.setCell _ _ _ = W2 at *
        go_wp2_with (first
        | refine load_blk rfl 27 (.tmp 3) rfl w.heap.size rfl 27 _ _ B0.out Try.underlying27 rfl infoList ?_
        | (refine store_blk rfl 27 (.tmp 6) (.tmp 30) rfl (w.heap.size + 1) rfl 27 _ (ls4 room asked full (.slice a5 n5 c5)) rfl B1.out rfl infoList (by intro x hx; simp at hx; rcases hx with rfl | rfl | rfl | rfl <;> rfl) ?_
           intro w9 hb9 hk9))
        refine bodyPost_ret (ret_blk rfl _ (w.heap.size + 1) _ _ _ rfl hb9 Try.underlying27 rfl infoList) rfl ?_
        rw [← HPP.out, HW2.out]
        exact ⟨a5, n5, c5, rfl, HN5.out.1, HN5.out.2, L1.out.frame hk9 (fun b hb xs hB => by simp at hb; subst hb; exact blk_neT B1.out hB (by decide)), K1.out.trans hk9 (fun _ h => h) (fun x h => by simp at h; right; omega)⟩
  · rw [hb] at HH0
    have HW2 := hx (show waitR room full l k t = (l, full) by rw [HWR.out, if_pos hb])
    clear HWR hb HPU HHD
    go_wp2_with (refine load_blk rfl 27 (.tmp 3) rfl w.heap.size rfl 27 _ _ P0.out.b0 Try.underlying27 rfl infoList ?_)
    refine HH0.out.mono ?_
    rintro e w1 ⟨rfl, hk1⟩
    have P1 := hx (P0.out.kept hk1)
    clear hk1 HH0 P0
    go_wp2_with (first
        | refine load_blk rfl 27 (.tmp 3) rfl w.heap.size rfl 27 _ _ P1.out.b0 Try.underlying27 rfl infoList ?_
        | (refine store_blk rfl 27 (.tmp 6) (.tmp 10) rfl (w.heap.size + 1) rfl 27 _ (ls4 room asked full (.slice a n c)) rfl P1.out.b1 rfl infoList (by intro x hx; simp at hx; rcases hx with rfl | rfl | rfl | rfl <;> rfl) ?_
           intro w9 hb9 hk9))
    refine bodyPost_ret (ret_blk rfl _ (w.heap.size + 1) _ _ _ rfl hb9 Try.underlying27 rfl infoList) rfl ?_
    rw [← HPP.out, HW2.out]
    have hk := P1.out.k.trans hk9 (fun _ h => h) (fun x h => by simp at h; right; omega)
    exact ⟨a, n, c, rfl, HN.out, HC.out, HL.out.kept hk, hk⟩
end Go.Proofs.Yteobkcmfpmolmaa
