/- One call at both timers. Printed by k/gen_tmd.py. -/
import Derived.Test.YthcbacflopbkdaaTmO
namespace Go.Proofs.Ythcbacflopbkdaa
open Go Go.RowKit Go.Shelf
set_option maxRecDepth 100000 in
set_option maxHeartbeats 6400000 in
theorem doT_other {w0 w : World} {q : Nat} {v : Value} {room now no : Int} {h s : List En} {a : Option Addr} {n c : Nat} (d : DoT w0 w q v room now no h s a n c) (kk m t : Int) (hk0 : kk ≠ 0) (hk1 : kk ≠ 1) (hk2 : kk ≠ 2) (hk3 : kk ≠ 3) (h100 : n ≤ 900) (hno : no ≤ 1000000) :
    Calls Try.prog 19 #[.pointer (some ⟨q, 0, none⟩), .agg #[.int .i64 room, .int .i64 now, .slice a n c], .agg #[.int .i64 kk, .int .i64 m, .int .i64 t]] w (DoTP w0 w q v room no) := by
  generalize hPP : DoTP w0 w q v room no = PP
  have HPP := hx hPP
  have hz := zeroRSet
  have BB := hx (Bo.new w (set3 room now (.slice a n c)) (op3 kk m t) (set3 0 0 (.slice none 0 0)))
  have HD := hx (d.kept ((((Kept.refl [] w).alloc (.cells #[.int .i64 room, .int .i64 now, .slice a n c] 34)).alloc (.cells #[.int .i64 kk, .int .i64 m, .int .i64 t] 39)).alloc (.cells #[.int .i64 0, .int .i64 0, .slice none 0 0] 34)))
  have HKW := hx ((((Kept.refl [] w).alloc (.cells #[.int .i64 room, .int .i64 now, .slice a n c] 34)).alloc (.cells #[.int .i64 kk, .int .i64 m, .int .i64 t] 39)).alloc (.cells #[.int .i64 0, .int .i64 0, .slice none 0 0] 34))
  have HSZ := hx (show w0.heap.size ≤ w.heap.size + 2 by have h := d.k.size; omega)
  have HSN := hx (show w0.heap.size ≤ w.heap.size from d.k.size)
  have HH := hx (show h.length ≤ 1000000 by have h1 := d.tp.len; have h2 := d.hn; omega)
  have HNO := hx hno
  clear d hPP hno h100
  have e0 : (kk == 0) = false := by simpa using hk0
  have e1 : (kk == 1) = false := by simpa using hk1
  have e2 : (kk == 2) = false := by simpa using hk2
  have e3 : (kk == 3) = false := by simpa using hk3
  clear hk0 hk1 hk2 hk3
  go_enter Try.func19, Try.ntmps19
  go_upto_region 1 with fail
  clear hz
  generalize ((w.alloc (.cells #[.int .i64 room, .int .i64 now, .slice a n c] 34)).alloc (.cells #[.int .i64 kk, .int .i64 m, .int .i64 t] 39)).alloc (.cells #[.int .i64 0, .int .i64 0, .slice none 0 0] 34) = W at *
  have k0 := BB.out.b1.cell (i := 0) rfl
  go_wp2_with (first
    | refine load_blk rfl 34 (.tmp 4) rfl w.heap.size rfl 34 _ _ BB.out.b0 Try.underlying34 rfl infoSet ?_
    | (refine store_blk rfl 34 (.tmp 6) (.tmp 17) rfl (w.heap.size + 2) rfl 34 _ (set3 room now (.slice a n c)) rfl BB.out.b2 rfl infoSet (by intro x hx; simp at hx; rcases hx with rfl | rfl | rfl <;> rfl) ?_
       intro w9 hb9 hk9))
  refine bodyPost_ret (ret_blk2 rfl _ (w.heap.size + 2) _ _ _ _ rfl rfl hb9 Try.underlying34 rfl infoSet) rfl ?_
  rw [← HPP.out]
  exact ⟨_, _, _, _, _, _, _, _, rfl, HD.out.put BB.out.b2 HSZ.out hk9, by omega, kept_qs (HKW.out.mono (by simp)) hk9 (by omega)⟩
set_option maxRecDepth 100000 in
set_option maxHeartbeats 6400000 in
theorem doT_start {w0 w : World} {q : Nat} {v : Value} {room now no : Int} {h s : List En} {a : Option Addr} {n c : Nat} (d : DoT w0 w q v room now no h s a n c) (m t : Int) (h100 : n ≤ 900) (hno : no ≤ 1000000) :
    Calls Try.prog 19 #[.pointer (some ⟨q, 0, none⟩), .agg #[.int .i64 room, .int .i64 now, .slice a n c], .agg #[.int .i64 0, .int .i64 m, .int .i64 t]] w (DoTP w0 w q v room no) := by
  generalize hPP : DoTP w0 w q v room no = PP
  have HPP := hx hPP
  have hz := zeroRSet
  have BB := hx (Bo.new w (set3 room now (.slice a n c)) (op3 0 m t) (set3 0 0 (.slice none 0 0)))
  have HD := hx (d.kept ((((Kept.refl [] w).alloc (.cells #[.int .i64 room, .int .i64 now, .slice a n c] 34)).alloc (.cells #[.int .i64 0, .int .i64 m, .int .i64 t] 39)).alloc (.cells #[.int .i64 0, .int .i64 0, .slice none 0 0] 34)))
  have HKW := hx ((((Kept.refl [] w).alloc (.cells #[.int .i64 room, .int .i64 now, .slice a n c] 34)).alloc (.cells #[.int .i64 0, .int .i64 m, .int .i64 t] 39)).alloc (.cells #[.int .i64 0, .int .i64 0, .slice none 0 0] 34))
  have HSZ := hx (show w0.heap.size ≤ w.heap.size + 2 by have h := d.k.size; omega)
  have HSN := hx (show w0.heap.size ≤ w.heap.size from d.k.size)
  have HH := hx (show h.length ≤ 1000000 by have h1 := d.tp.len; have h2 := d.hn; omega)
  have HNO := hx hno
  clear d hPP hno
  go_enter Try.func19, Try.ntmps19
  go_upto_region 1 with fail
  clear hz
  generalize ((w.alloc (.cells #[.int .i64 room, .int .i64 now, .slice a n c] 34)).alloc (.cells #[.int .i64 0, .int .i64 m, .int .i64 t] 39)).alloc (.cells #[.int .i64 0, .int .i64 0, .slice none 0 0] 34) = W at *
  have k0 := BB.out.b1.cell (i := 0) rfl
  have k1 := BB.out.b1.cell (i := 1) rfl
  have k2 := BB.out.b1.cell (i := 2) rfl
  have c0 := BB.out.b0.cell (i := 0) rfl
  have c1 := BB.out.b0.cell (i := 1) rfl
  have c2 := BB.out.b0.cell (i := 2) rfl
  have HRS := hx (rstart_any a n c (s.map pr) room now m t W HD.out.ls (by simpa using HD.out.hn) HD.out.hc (by omega) HD.out.tp.now0 HD.out.tp.now1)
  go_wp2_with fail
  refine HRS.out.mono ?_
  rintro e w1 ⟨a2, n2, c2', rfl, hn2, hc2, hl2, hk1⟩
  have BB1 := hx (BB.out.kept hk1)
  have HKW1 := hx (HKW.out.trans0 hk1)
  have HD1 := hx (HD.out.kept hk1)
  have HL1 := hx (And.intro hl2 (And.intro hn2 hc2))
  clear BB HD HRS hn2 hc2 hl2 hk1 k0 k1 k2 c0 c1 c2
  generalize hsr : startR room now (s.map pr) m t = R at *
  have HSR := hx hsr
  clear hsr
  go_upto_region 5 with fail
  have B8 := hx (Blk.new w1 (set3 room now (.slice a2 n2 c2')) 34)
  have HK2 := hx ((Kept.refl [] w1).alloc (.cells #[.int .i64 room, .int .i64 now, .slice a2 n2 c2'] 34))
  have HKW2 := hx (HKW1.out.trans0 HK2.out)
  have BB2 := hx (BB1.out.kept HK2.out)
  have HD2 := hx (HD1.out.kept HK2.out)
  have HL2 := hx (HL1.out.1.kept HK2.out)
  have HN2 := hx HL1.out.2
  have HB8 := hx (show w.heap.size + 3 ≤ w1.heap.size from BB1.out.size)
  clear BB1 HD1 HL1 HK2
  generalize w1.heap.size = b8 at *
  generalize w1.alloc (.cells #[.int .i64 room, .int .i64 now, .slice a2 n2 c2'] 34) = W3 at *
  have HST := hx (fun w4 (hk : Kept [] W3 w4) => tstart_any q v room now no m t h w4 (HD2.out.kept hk).ts HH.out HD2.out.tp.no0 (by have := HNO.out; omega) HD2.out.tp.now0 HD2.out.tp.now1)
  have HAF := hx (fun w4 (hk : Kept [] W3 w4) e w5 (hS : StartP w4 q v room now no m t h e w5) => by
    have h1 := start_both (HD2.out.kept hk) (a2 := a2) (n2 := n2) (c2 := c2') hS (by rw [HSR.out]; exact HL2.out.kept hk) (by rw [HSR.out]; exact HN2.out.1) HN2.out.2
    rw [HSR.out] at h1
    obtain ⟨v', no', h', s', g1, g2, g3, g4⟩ := h1
    exact (⟨v', no', h', s', hx g2, hx (blk_ts (BB2.out.kept hk).b2 (HD2.out.kept hk).ts g1 (by decide) (by decide)), hx (blk_ts (hk.blk B8.out (by simp)) (HD2.out.kept hk).ts g1 (by decide) (by decide)), hx (blk_ts (BB2.out.kept hk).b1 (HD2.out.kept hk).ts g1 (by decide) (by decide)), g3, hx g4, hx (kept_q0 (HKW2.out.trans0 hk) g1.1)⟩ : ∃ v' no' h' s', Hx (DoT w0 w5 q v' room now no' h' s' a2 n2 c2') ∧ Hx (Blk w5 (w.heap.size + 2) (set3 0 0 (.slice none 0 0)) 34) ∧ Hx (Blk w5 b8 (set3 room now (.slice a2 n2 c2')) 34) ∧ Hx (Blk w5 (w.heap.size + 1) (op3 0 m t) 39) ∧ e = .returned (.int .i64 R.2) ∧ Hx (no' ≤ no + 1) ∧ Hx (Kept (q :: v.ownBlock.toList) w w5)))
  have cs0 := B8.out.cell (i := 0) (v := .int .i64 room) rfl
  have cs1 := B8.out.cell (i := 1) (v := .int .i64 now) rfl
  have cs2 := B8.out.cell (i := 2) (v := .slice a2 n2 c2') rfl
  have ko1 := BB2.out.b1.cell (i := 1) (v := .int .i64 m) rfl
  have ko2 := BB2.out.b1.cell (i := 2) (v := .int .i64 t) rfl
  have HS := hx (show ∀ (bs : List Nat) (w3 w4 : World), (w3.cell? ⟨b8, 0, none⟩ = some (.int .i64 room) ∧ w3.cell? ⟨b8, 1, none⟩ = some (.int .i64 now) ∧ w3.cell? ⟨b8, 2, none⟩ = some (.slice a2 n2 c2') ∧ w3.cell? ⟨w.heap.size + 1, 1, none⟩ = some (.int .i64 m) ∧ w3.cell? ⟨w.heap.size + 1, 2, none⟩ = some (.int .i64 t)) → Kept bs w3 w4 → b8 ∉ bs → w.heap.size + 1 ∉ bs → (w4.cell? ⟨b8, 0, none⟩ = some (.int .i64 room) ∧ w4.cell? ⟨b8, 1, none⟩ = some (.int .i64 now) ∧ w4.cell? ⟨b8, 2, none⟩ = some (.slice a2 n2 c2') ∧ w4.cell? ⟨w.heap.size + 1, 1, none⟩ = some (.int .i64 m) ∧ w4.cell? ⟨w.heap.size + 1, 2, none⟩ = some (.int .i64 t)) from fun bs w3 w4 ⟨h0, h1, h2, h3, h4⟩ hk hb8 hb5 => by
    have hc : ∀ {p : Addr} {v : Value}, w3.cell? p = some v → p.block ∉ bs → w4.cell? p = some v := fun {p v} h hn => by rw [hk.cell (block_lt_of_cell h) hn]; exact h
    exact ⟨hc h0 (by simp only; exact hb8), hc h1 (by simp only; exact hb8), hc h2 (by simp only; exact hb8), hc h3 (by simp only; exact hb5), hc h4 (by simp only; exact hb5)⟩)
  have hSS : (W3.cell? ⟨b8, 0, none⟩ = some (.int .i64 room) ∧ W3.cell? ⟨b8, 1, none⟩ = some (.int .i64 now) ∧ W3.cell? ⟨b8, 2, none⟩ = some (.slice a2 n2 c2') ∧ W3.cell? ⟨w.heap.size + 1, 1, none⟩ = some (.int .i64 m) ∧ W3.cell? ⟨w.heap.size + 1, 2, none⟩ = some (.int .i64 t)) := ⟨cs0, cs1, cs2, ko1, ko2⟩
  clear cs0 cs1 cs2 ko1 ko2
  go_region_held3 (fun w3 => w3.cell? ⟨b8, 0, none⟩ = some (.int .i64 room) ∧ w3.cell? ⟨b8, 1, none⟩ = some (.int .i64 now) ∧ w3.cell? ⟨b8, 2, none⟩ = some (.slice a2 n2 c2') ∧ w3.cell? ⟨w.heap.size + 1, 1, none⟩ = some (.int .i64 m) ∧ w3.cell? ⟨w.heap.size + 1, 2, none⟩ = some (.int .i64 t)) (first | exact hSS | exact HS.out [] _ _ hSS ((Kept.refl _ _).drew) (by simp) (by simp) | assumption | exact HS.out [w.heap.size + 2] _ _ ‹_› ((((Kept.refl [w.heap.size + 2] _).setCell (p := ⟨w.heap.size + 2, 0, none⟩) (.inl (by simp)) _).setCell (p := ⟨w.heap.size + 2, 1, none⟩) (.inl (by simp)) _).setCell (p := ⟨w.heap.size + 2, 2, none⟩) (.inl (by simp)) _) (by have := HB8.out; simp; omega) (by simp))
    (first | (go_at_call 15; refine (HST.out _ (by first | exact (Kept.refl _ _).drew | exact Kept.refl _ _)).mono ?_; rintro e w5 hS; obtain ⟨v', no', h', s', HD5, HB5, H85, HO5, rfl, HN5, HG5⟩ := HAF.out _ (by first | exact (Kept.refl _ _).drew | exact Kept.refl _ _) _ _ hS; clear hS; have ct0 := HB5.out.cell (i := 0) rfl; have ct1 := HB5.out.cell (i := 1) rfl; have ct2 := HB5.out.cell (i := 2) rfl; have hf := HB5.out.free; have hSS := show _ from (⟨H85.out.cell (i := 0) (v := .int .i64 room) rfl, H85.out.cell (i := 1) (v := .int .i64 now) rfl, H85.out.cell (i := 2) (v := .slice a2 n2 c2') rfl, HO5.out.cell (i := 1) (v := .int .i64 m) rfl, HO5.out.cell (i := 2) (v := .int .i64 t) rfl⟩ : w5.cell? ⟨b8, 0, none⟩ = some (.int .i64 room) ∧ w5.cell? ⟨b8, 1, none⟩ = some (.int .i64 now) ∧ w5.cell? ⟨b8, 2, none⟩ = some (.slice a2 n2 c2') ∧ w5.cell? ⟨w.heap.size + 1, 1, none⟩ = some (.int .i64 m) ∧ w5.cell? ⟨w.heap.size + 1, 2, none⟩ = some (.int .i64 t))))
  all_goals
    go_wp2_with fail
    refine bodyPost_ret (ret_blk2 rfl _ (w.heap.size + 2) 34 (set3 room now (.slice a2 n2 c2')) _ _ rfl rfl (((HB5.out.set 0 (.int .i64 room)).set 1 (.int .i64 now)).set 2 (.slice a2 n2 c2')) Try.underlying34 rfl infoSet) rfl ?_
    rw [← HPP.out]
    exact ⟨_, _, _, _, _, _, _, _, rfl, HD5.out.put HB5.out HSZ.out ((((Kept.refl [w.heap.size + 2] w5).setCell (p := ⟨w.heap.size + 2, 0, none⟩) (.inl (by simp)) (.int .i64 room)).setCell (p := ⟨w.heap.size + 2, 1, none⟩) (.inl (by simp)) (.int .i64 now)).setCell (p := ⟨w.heap.size + 2, 2, none⟩) (.inl (by simp)) (.slice a2 n2 c2')), HN5.out, kept_qs HG5.out ((((Kept.refl [w.heap.size + 2] w5).setCell (p := ⟨w.heap.size + 2, 0, none⟩) (.inl (by simp)) (.int .i64 room)).setCell (p := ⟨w.heap.size + 2, 1, none⟩) (.inl (by simp)) (.int .i64 now)).setCell (p := ⟨w.heap.size + 2, 2, none⟩) (.inl (by simp)) (.slice a2 n2 c2')) (by omega)⟩
set_option maxRecDepth 100000 in
set_option maxHeartbeats 6400000 in
theorem doT_stop {w0 w : World} {q : Nat} {v : Value} {room now no : Int} {h s : List En} {a : Option Addr} {n c : Nat} (d : DoT w0 w q v room now no h s a n c) (m t : Int) (h100 : n ≤ 900) (hno : no ≤ 1000000) :
    Calls Try.prog 19 #[.pointer (some ⟨q, 0, none⟩), .agg #[.int .i64 room, .int .i64 now, .slice a n c], .agg #[.int .i64 1, .int .i64 m, .int .i64 t]] w (DoTP w0 w q v room no) := by
  generalize hPP : DoTP w0 w q v room no = PP
  have HPP := hx hPP
  have hz := zeroRSet
  have BB := hx (Bo.new w (set3 room now (.slice a n c)) (op3 1 m t) (set3 0 0 (.slice none 0 0)))
  have HD := hx (d.kept ((((Kept.refl [] w).alloc (.cells #[.int .i64 room, .int .i64 now, .slice a n c] 34)).alloc (.cells #[.int .i64 1, .int .i64 m, .int .i64 t] 39)).alloc (.cells #[.int .i64 0, .int .i64 0, .slice none 0 0] 34)))
  have HKW := hx ((((Kept.refl [] w).alloc (.cells #[.int .i64 room, .int .i64 now, .slice a n c] 34)).alloc (.cells #[.int .i64 1, .int .i64 m, .int .i64 t] 39)).alloc (.cells #[.int .i64 0, .int .i64 0, .slice none 0 0] 34))
  have HSZ := hx (show w0.heap.size ≤ w.heap.size + 2 by have h := d.k.size; omega)
  have HSN := hx (show w0.heap.size ≤ w.heap.size from d.k.size)
  have HH := hx (show h.length ≤ 1000000 by have h1 := d.tp.len; have h2 := d.hn; omega)
  have HNO := hx hno
  clear d hPP hno
  go_enter Try.func19, Try.ntmps19
  go_upto_region 1 with fail
  clear hz
  generalize ((w.alloc (.cells #[.int .i64 room, .int .i64 now, .slice a n c] 34)).alloc (.cells #[.int .i64 1, .int .i64 m, .int .i64 t] 39)).alloc (.cells #[.int .i64 0, .int .i64 0, .slice none 0 0] 34) = W at *
  have k0 := BB.out.b1.cell (i := 0) rfl
  have k1 := BB.out.b1.cell (i := 1) rfl
  have k2 := BB.out.b1.cell (i := 2) rfl
  have c0 := BB.out.b0.cell (i := 0) rfl
  have c1 := BB.out.b0.cell (i := 1) rfl
  have c2 := BB.out.b0.cell (i := 2) rfl
  have HRS := hx (rwithout_any a n c (s.map pr) room now m W HD.out.ls (by simpa using HD.out.hn) (by omega))
  go_wp2_with fail
  refine HRS.out.mono ?_
  rintro e w1 ⟨a2, n2, c2', rfl, hn2, hc2, hl2, hk1⟩
  generalize hbb : decide ((without m (s.map pr)).length < (s.map pr).length) = bb at *
  have HBE := hx hbb
  clear hbb
  have BB1 := hx (BB.out.kept hk1)
  have HKW1 := hx (HKW.out.trans0 hk1)
  have HD1 := hx (HD.out.kept hk1)
  have HL1 := hx (And.intro hl2 (And.intro hn2 hc2))
  clear BB HD HRS hn2 hc2 hl2 hk1 k0 k1 k2 c0 c1 c2
  go_upto_region 8 with fail
  have B8 := hx (Blk.new w1 (set3 room now (.slice a2 n2 c2')) 34)
  have HK2 := hx ((Kept.refl [] w1).alloc (.cells #[.int .i64 room, .int .i64 now, .slice a2 n2 c2'] 34))
  have HKW2 := hx (HKW1.out.trans0 HK2.out)
  have BB2 := hx (BB1.out.kept HK2.out)
  have HD2 := hx (HD1.out.kept HK2.out)
  have HL2 := hx (HL1.out.1.kept HK2.out)
  have HN2 := hx HL1.out.2
  have HB8 := hx (show w.heap.size + 3 ≤ w1.heap.size from BB1.out.size)
  clear BB1 HD1 HL1 HK2
  generalize w1.heap.size = b8 at *
  generalize w1.alloc (.cells #[.int .i64 room, .int .i64 now, .slice a2 n2 c2'] 34) = W3 at *
  have HST := hx (fun w4 (hk : Kept [] W3 w4) => tstop_any q v room now no m h w4 (HD2.out.kept hk).ts HH.out)
  have HAF := hx (fun w4 (hk : Kept [] W3 w4) e w5 (hS : StopP w4 q v room now no m h e w5) => by
    obtain ⟨v', h', s', g1, g2, g3⟩ := stop_both (HD2.out.kept hk) hS (HL2.out.kept hk) HN2.out.1 HN2.out.2
    rw [HBE.out] at g3
    exact (⟨v', h', s', hx g2, hx (blk_ts (BB2.out.kept hk).b2 (HD2.out.kept hk).ts g1 (by decide) (by decide)), hx (blk_ts (hk.blk B8.out (by simp)) (HD2.out.kept hk).ts g1 (by decide) (by decide)), hx (blk_ts (BB2.out.kept hk).b1 (HD2.out.kept hk).ts g1 (by decide) (by decide)), g3, hx (kept_q0 (HKW2.out.trans0 hk) g1.1)⟩ : ∃ v' h' s', Hx (DoT w0 w5 q v' room now no h' s' a2 n2 c2') ∧ Hx (Blk w5 (w.heap.size + 2) (set3 0 0 (.slice none 0 0)) 34) ∧ Hx (Blk w5 b8 (set3 room now (.slice a2 n2 c2')) 34) ∧ Hx (Blk w5 (w.heap.size + 1) (op3 1 m t) 39) ∧ e = .returned (.bool bb) ∧ Hx (Kept (q :: v.ownBlock.toList) w w5)))
  have cs0 := B8.out.cell (i := 0) (v := .int .i64 room) rfl
  have cs1 := B8.out.cell (i := 1) (v := .int .i64 now) rfl
  have cs2 := B8.out.cell (i := 2) (v := .slice a2 n2 c2') rfl
  have ko1 := BB2.out.b1.cell (i := 1) (v := .int .i64 m) rfl
  have HS := hx (show ∀ (bs : List Nat) (w3 w4 : World), (w3.cell? ⟨b8, 0, none⟩ = some (.int .i64 room) ∧ w3.cell? ⟨b8, 1, none⟩ = some (.int .i64 now) ∧ w3.cell? ⟨b8, 2, none⟩ = some (.slice a2 n2 c2') ∧ w3.cell? ⟨w.heap.size + 1, 1, none⟩ = some (.int .i64 m)) → Kept bs w3 w4 → b8 ∉ bs → w.heap.size + 1 ∉ bs → (w4.cell? ⟨b8, 0, none⟩ = some (.int .i64 room) ∧ w4.cell? ⟨b8, 1, none⟩ = some (.int .i64 now) ∧ w4.cell? ⟨b8, 2, none⟩ = some (.slice a2 n2 c2') ∧ w4.cell? ⟨w.heap.size + 1, 1, none⟩ = some (.int .i64 m)) from fun bs w3 w4 ⟨h0, h1, h2, h3⟩ hk hb8 hb5 => by
    have hc : ∀ {p : Addr} {v : Value}, w3.cell? p = some v → p.block ∉ bs → w4.cell? p = some v := fun {p v} h hn => by rw [hk.cell (block_lt_of_cell h) hn]; exact h
    exact ⟨hc h0 (by simp only; exact hb8), hc h1 (by simp only; exact hb8), hc h2 (by simp only; exact hb8), hc h3 (by simp only; exact hb5)⟩)
  have hSS : (W3.cell? ⟨b8, 0, none⟩ = some (.int .i64 room) ∧ W3.cell? ⟨b8, 1, none⟩ = some (.int .i64 now) ∧ W3.cell? ⟨b8, 2, none⟩ = some (.slice a2 n2 c2') ∧ W3.cell? ⟨w.heap.size + 1, 1, none⟩ = some (.int .i64 m)) := ⟨cs0, cs1, cs2, ko1⟩
  clear cs0 cs1 cs2 ko1
  go_region_held3 (fun w3 => w3.cell? ⟨b8, 0, none⟩ = some (.int .i64 room) ∧ w3.cell? ⟨b8, 1, none⟩ = some (.int .i64 now) ∧ w3.cell? ⟨b8, 2, none⟩ = some (.slice a2 n2 c2') ∧ w3.cell? ⟨w.heap.size + 1, 1, none⟩ = some (.int .i64 m)) (first | exact hSS | exact HS.out [] _ _ hSS ((Kept.refl _ _).drew) (by simp) (by simp) | assumption | exact HS.out [w.heap.size + 2] _ _ ‹_› ((((Kept.refl [w.heap.size + 2] _).setCell (p := ⟨w.heap.size + 2, 0, none⟩) (.inl (by simp)) _).setCell (p := ⟨w.heap.size + 2, 1, none⟩) (.inl (by simp)) _).setCell (p := ⟨w.heap.size + 2, 2, none⟩) (.inl (by simp)) _) (by have := HB8.out; simp; omega) (by simp))
    (first | (go_at_call 28; refine (HST.out _ (by first | exact (Kept.refl _ _).drew | exact Kept.refl _ _)).mono ?_; rintro e w5 hS; obtain ⟨v', h', s', HD5, HB5, H85, HO5, rfl, HG5⟩ := HAF.out _ (by first | exact (Kept.refl _ _).drew | exact Kept.refl _ _) _ _ hS; clear hS; have ct0 := HB5.out.cell (i := 0) rfl; have ct1 := HB5.out.cell (i := 1) rfl; have ct2 := HB5.out.cell (i := 2) rfl; have hf := HB5.out.free; have hSS := (⟨H85.out.cell (i := 0) (v := .int .i64 room) rfl, H85.out.cell (i := 1) (v := .int .i64 now) rfl, H85.out.cell (i := 2) (v := .slice a2 n2 c2') rfl, HO5.out.cell (i := 1) (v := .int .i64 m) rfl⟩ : w5.cell? ⟨b8, 0, none⟩ = some (.int .i64 room) ∧ w5.cell? ⟨b8, 1, none⟩ = some (.int .i64 now) ∧ w5.cell? ⟨b8, 2, none⟩ = some (.slice a2 n2 c2') ∧ w5.cell? ⟨w.heap.size + 1, 1, none⟩ = some (.int .i64 m))))
  all_goals
    go_wp2_with fail
    refine bodyPost_ret (ret_blk2 rfl _ (w.heap.size + 2) 34 (set3 room now (.slice a2 n2 c2')) _ _ rfl rfl (((HB5.out.set 0 (.int .i64 room)).set 1 (.int .i64 now)).set 2 (.slice a2 n2 c2')) Try.underlying34 rfl infoSet) rfl ?_
    rw [← HPP.out]
    exact ⟨_, _, _, _, _, _, _, _, rfl, HD5.out.put HB5.out HSZ.out ((((Kept.refl [w.heap.size + 2] w5).setCell (p := ⟨w.heap.size + 2, 0, none⟩) (.inl (by simp)) (.int .i64 room)).setCell (p := ⟨w.heap.size + 2, 1, none⟩) (.inl (by simp)) (.int .i64 now)).setCell (p := ⟨w.heap.size + 2, 2, none⟩) (.inl (by simp)) (.slice a2 n2 c2')), by omega, kept_qs HG5.out ((((Kept.refl [w.heap.size + 2] w5).setCell (p := ⟨w.heap.size + 2, 0, none⟩) (.inl (by simp)) (.int .i64 room)).setCell (p := ⟨w.heap.size + 2, 1, none⟩) (.inl (by simp)) (.int .i64 now)).setCell (p := ⟨w.heap.size + 2, 2, none⟩) (.inl (by simp)) (.slice a2 n2 c2')) (by omega)⟩
set_option maxRecDepth 100000 in
set_option maxHeartbeats 6400000 in
theorem doT_tick {w0 w : World} {q : Nat} {v : Value} {room now no : Int} {h s : List En} {a : Option Addr} {n c : Nat} (d : DoT w0 w q v room now no h s a n c) (m t : Int) (h100 : n ≤ 900) (hno : no ≤ 1000000) :
    Calls Try.prog 19 #[.pointer (some ⟨q, 0, none⟩), .agg #[.int .i64 room, .int .i64 now, .slice a n c], .agg #[.int .i64 2, .int .i64 m, .int .i64 t]] w (DoTP w0 w q v room no) := by
  generalize hPP : DoTP w0 w q v room no = PP
  have HPP := hx hPP
  have hz := zeroRSet
  have BB := hx (Bo.new w (set3 room now (.slice a n c)) (op3 2 m t) (set3 0 0 (.slice none 0 0)))
  have HD := hx (d.kept ((((Kept.refl [] w).alloc (.cells #[.int .i64 room, .int .i64 now, .slice a n c] 34)).alloc (.cells #[.int .i64 2, .int .i64 m, .int .i64 t] 39)).alloc (.cells #[.int .i64 0, .int .i64 0, .slice none 0 0] 34)))
  have HKW := hx ((((Kept.refl [] w).alloc (.cells #[.int .i64 room, .int .i64 now, .slice a n c] 34)).alloc (.cells #[.int .i64 2, .int .i64 m, .int .i64 t] 39)).alloc (.cells #[.int .i64 0, .int .i64 0, .slice none 0 0] 34))
  have HSZ := hx (show w0.heap.size ≤ w.heap.size + 2 by have h := d.k.size; omega)
  have HSN := hx (show w0.heap.size ≤ w.heap.size from d.k.size)
  have HH := hx (show h.length ≤ 1000000 by have h1 := d.tp.len; have h2 := d.hn; omega)
  have HNO := hx hno
  clear d hPP hno
  go_enter Try.func19, Try.ntmps19
  go_upto_region 1 with fail
  clear hz
  generalize ((w.alloc (.cells #[.int .i64 room, .int .i64 now, .slice a n c] 34)).alloc (.cells #[.int .i64 2, .int .i64 m, .int .i64 t] 39)).alloc (.cells #[.int .i64 0, .int .i64 0, .slice none 0 0] 34) = W at *
  have k0 := BB.out.b1.cell (i := 0) rfl
  have k1 := BB.out.b1.cell (i := 1) rfl
  have k2 := BB.out.b1.cell (i := 2) rfl
  have c0 := BB.out.b0.cell (i := 0) rfl
  have c1 := BB.out.b0.cell (i := 1) rfl
  have c2 := BB.out.b0.cell (i := 2) rfl
  have HRS := hx (rtick_any a n c (s.map pr) room now t W HD.out.ls (by simpa using HD.out.hn) (by omega) HD.out.tp.now0 HD.out.tp.now1)
  go_wp2_with fail
  refine HRS.out.mono ?_
  rintro e w1 ⟨a2, n2, c2', b2, m2, d2, rfl, hn2, hc2, hl2, hm2, hi2, hk1⟩
  have HI1 := hx (And.intro hm2 hi2)
  have HM2 := hx (show m2 ≤ 1000000 by
    have h1 := came_len (nowT now t) (s.map pr)
    have h2 := HD.out.hn
    rw [hm2, List.length_map] at h1
    omega)
  clear hm2 hi2
  have BB1 := hx (BB.out.kept hk1)
  have HKW1 := hx (HKW.out.trans0 hk1)
  have HD1 := hx (HD.out.kept hk1)
  have HL1 := hx (And.intro hl2 (And.intro hn2 hc2))
  clear BB HD HRS hn2 hc2 hl2 hk1 k0 k1 k2 c0 c1 c2
  go_upto_region 11 with fail
  have B8 := hx (Blk.new w1 (set3 room (nowT now t) (.slice a2 n2 c2')) 34)
  have HK2 := hx ((Kept.refl [] w1).alloc (.cells #[.int .i64 room, .int .i64 (nowT now t), .slice a2 n2 c2'] 34))
  have HKW2 := hx (HKW1.out.trans0 HK2.out)
  have BB2 := hx (BB1.out.kept HK2.out)
  have HD2 := hx (HD1.out.kept HK2.out)
  have HL2 := hx (HL1.out.1.kept HK2.out)
  have HN2 := hx HL1.out.2
  have HB8 := hx (show w.heap.size + 3 ≤ w1.heap.size from BB1.out.size)
  have HI2 := hx (And.intro HI1.out.1 (HI1.out.2.kept HK2.out))
  clear BB1 HD1 HL1 HK2 HI1
  generalize w1.heap.size = b8 at *
  generalize w1.alloc (.cells #[.int .i64 room, .int .i64 (nowT now t), .slice a2 n2 c2'] 34) = W3 at *
  have HST := hx (fun w4 (hk : Kept [] W3 w4) => tick_any q v room now no t h s w4 (HD2.out.kept hk).ts HD2.out.tp HH.out)
  have HAF := hx (fun w4 (hk : Kept [] W3 w4) e w5 (hS : TickP w4 q v room now no t s e w5) => by
    obtain ⟨v', h', s', b3, d3, g1, g2, g3, g4, g5⟩ := tick_both (HD2.out.kept hk) hS (HL2.out.kept hk) HN2.out.1 HN2.out.2 HI2.out.1 (HI2.out.2.kept hk)
    exact (⟨v', h', s', b3, d3, hx g2, hx (blk_ts (BB2.out.kept hk).b2 (HD2.out.kept hk).ts g1 (by decide) (by decide)), hx (blk_ts (hk.blk B8.out (by simp)) (HD2.out.kept hk).ts g1 (by decide) (by decide)), hx (blk_ts (BB2.out.kept hk).b1 (HD2.out.kept hk).ts g1 (by decide) (by decide)), g3, hx (And.intro g4 g5.cell), hx (kept_q0 (HKW2.out.trans0 hk) g1.1)⟩ : ∃ v' h' s' b3 d3, Hx (DoT w0 w5 q v' room (nowT now t) no h' s' a2 n2 c2') ∧ Hx (Blk w5 (w.heap.size + 2) (set3 0 0 (.slice none 0 0)) 34) ∧ Hx (Blk w5 b8 (set3 room (nowT now t) (.slice a2 n2 c2')) 34) ∧ Hx (Blk w5 (w.heap.size + 1) (op3 2 m t) 39) ∧ e = .returned (.slice b3 m2 d3) ∧ Hx (Iz w5 b3 (cameR (nowT now t) (s.map pr)) ∧ Iz w5 b2 (cameR (nowT now t) (s.map pr))) ∧ Hx (Kept (q :: v.ownBlock.toList) w w5)))
  have cs0 := B8.out.cell (i := 0) (v := .int .i64 room) rfl
  have cs1 := B8.out.cell (i := 1) (v := .int .i64 (nowT now t)) rfl
  have cs2 := B8.out.cell (i := 2) (v := .slice a2 n2 c2') rfl
  have ko2 := BB2.out.b1.cell (i := 2) (v := .int .i64 t) rfl
  have HS := hx (show ∀ (bs : List Nat) (w3 w4 : World), (w3.cell? ⟨b8, 0, none⟩ = some (.int .i64 room) ∧ w3.cell? ⟨b8, 1, none⟩ = some (.int .i64 (nowT now t)) ∧ w3.cell? ⟨b8, 2, none⟩ = some (.slice a2 n2 c2') ∧ w3.cell? ⟨w.heap.size + 1, 2, none⟩ = some (.int .i64 t)) → Kept bs w3 w4 → b8 ∉ bs → w.heap.size + 1 ∉ bs → (w4.cell? ⟨b8, 0, none⟩ = some (.int .i64 room) ∧ w4.cell? ⟨b8, 1, none⟩ = some (.int .i64 (nowT now t)) ∧ w4.cell? ⟨b8, 2, none⟩ = some (.slice a2 n2 c2') ∧ w4.cell? ⟨w.heap.size + 1, 2, none⟩ = some (.int .i64 t)) from fun bs w3 w4 ⟨h0, h1, h2, h3⟩ hk hb8 hb5 => by
    have hc : ∀ {p : Addr} {v : Value}, w3.cell? p = some v → p.block ∉ bs → w4.cell? p = some v := fun {p v} h hn => by rw [hk.cell (block_lt_of_cell h) hn]; exact h
    exact ⟨hc h0 (by simp only; exact hb8), hc h1 (by simp only; exact hb8), hc h2 (by simp only; exact hb8), hc h3 (by simp only; exact hb5)⟩)
  have hSS : (W3.cell? ⟨b8, 0, none⟩ = some (.int .i64 room) ∧ W3.cell? ⟨b8, 1, none⟩ = some (.int .i64 (nowT now t)) ∧ W3.cell? ⟨b8, 2, none⟩ = some (.slice a2 n2 c2') ∧ W3.cell? ⟨w.heap.size + 1, 2, none⟩ = some (.int .i64 t)) := ⟨cs0, cs1, cs2, ko2⟩
  clear cs0 cs1 cs2 ko2
  go_region_held3 (fun w3 => w3.cell? ⟨b8, 0, none⟩ = some (.int .i64 room) ∧ w3.cell? ⟨b8, 1, none⟩ = some (.int .i64 (nowT now t)) ∧ w3.cell? ⟨b8, 2, none⟩ = some (.slice a2 n2 c2') ∧ w3.cell? ⟨w.heap.size + 1, 2, none⟩ = some (.int .i64 t)) (first | exact hSS | exact HS.out [] _ _ hSS ((Kept.refl _ _).drew) (by simp) (by simp) | assumption | exact HS.out [w.heap.size + 2] _ _ ‹_› ((((Kept.refl [w.heap.size + 2] _).setCell (p := ⟨w.heap.size + 2, 0, none⟩) (.inl (by simp)) _).setCell (p := ⟨w.heap.size + 2, 1, none⟩) (.inl (by simp)) _).setCell (p := ⟨w.heap.size + 2, 2, none⟩) (.inl (by simp)) _) (by have := HB8.out; simp; omega) (by simp))
    (first | (go_at_call 16; refine (HST.out _ (by first | exact (Kept.refl _ _).drew | exact Kept.refl _ _)).mono ?_; rintro e w5 hS; obtain ⟨v', h', s', b3, d3, HD5, HB5, H85, HO5, rfl, HIZ, HG5⟩ := HAF.out _ (by first | exact (Kept.refl _ _).drew | exact Kept.refl _ _) _ _ hS; clear hS; have ct0 := HB5.out.cell (i := 0) rfl; have ct1 := HB5.out.cell (i := 1) rfl; have ct2 := HB5.out.cell (i := 2) rfl; have hf := HB5.out.free; have hSS := (⟨H85.out.cell (i := 0) (v := .int .i64 room) rfl, H85.out.cell (i := 1) (v := .int .i64 (nowT now t)) rfl, H85.out.cell (i := 2) (v := .slice a2 n2 c2') rfl, HO5.out.cell (i := 2) (v := .int .i64 t) rfl⟩ : w5.cell? ⟨b8, 0, none⟩ = some (.int .i64 room) ∧ w5.cell? ⟨b8, 1, none⟩ = some (.int .i64 (nowT now t)) ∧ w5.cell? ⟨b8, 2, none⟩ = some (.slice a2 n2 c2') ∧ w5.cell? ⟨w.heap.size + 1, 2, none⟩ = some (.int .i64 t))) | (go_at_call 17; refine (isame_eq _ _ _ _ _ _ w5 HIZ.out.1 HIZ.out.2 HI2.out.1 HM2.out).mono ?_; rintro e w6 ⟨rfl, hk6⟩; have HK6 := hx hk6; have HG6 := hx (HG5.out.trans0 hk6); have hSS := HS.out [] _ _ hSS hk6 (by simp) (by simp); have HB6 := hx (hk6.blk HB5.out (by simp)); clear ct0 ct1 ct2 hf hk6; have ct0 := HB6.out.cell (i := 0) rfl; have ct1 := HB6.out.cell (i := 1) rfl; have ct2 := HB6.out.cell (i := 2) rfl; have hf := HB6.out.free))
  all_goals
    go_wp2_with fail
    refine bodyPost_ret (ret_blk2 rfl _ (w.heap.size + 2) 34 (set3 room (nowT now t) (.slice a2 n2 c2')) _ _ rfl rfl (((HB6.out.set 0 (.int .i64 room)).set 1 (.int .i64 (nowT now t))).set 2 (.slice a2 n2 c2')) Try.underlying34 rfl infoSet) rfl ?_
    rw [← HPP.out]
    exact ⟨_, _, _, _, _, _, _, _, rfl, (HD5.out.kept HK6.out).put HB6.out HSZ.out ((((Kept.refl [w.heap.size + 2] w6).setCell (p := ⟨w.heap.size + 2, 0, none⟩) (.inl (by simp)) (.int .i64 room)).setCell (p := ⟨w.heap.size + 2, 1, none⟩) (.inl (by simp)) (.int .i64 (nowT now t))).setCell (p := ⟨w.heap.size + 2, 2, none⟩) (.inl (by simp)) (.slice a2 n2 c2')), by omega, kept_qs HG6.out ((((Kept.refl [w.heap.size + 2] w6).setCell (p := ⟨w.heap.size + 2, 0, none⟩) (.inl (by simp)) (.int .i64 room)).setCell (p := ⟨w.heap.size + 2, 1, none⟩) (.inl (by simp)) (.int .i64 (nowT now t))).setCell (p := ⟨w.heap.size + 2, 2, none⟩) (.inl (by simp)) (.slice a2 n2 c2')) (by omega)⟩
set_option maxRecDepth 100000 in
set_option maxHeartbeats 6400000 in
theorem doT_clear {w0 w : World} {q : Nat} {v : Value} {room now no : Int} {h s : List En} {a : Option Addr} {n c : Nat} (d : DoT w0 w q v room now no h s a n c) (m t : Int) (h100 : n ≤ 900) (hno : no ≤ 1000000) :
    Calls Try.prog 19 #[.pointer (some ⟨q, 0, none⟩), .agg #[.int .i64 room, .int .i64 now, .slice a n c], .agg #[.int .i64 3, .int .i64 m, .int .i64 t]] w (DoTP w0 w q v room no) := by
  generalize hPP : DoTP w0 w q v room no = PP
  have HPP := hx hPP
  have hz := zeroRSet
  have BB := hx (Bo.new w (set3 room now (.slice a n c)) (op3 3 m t) (set3 0 0 (.slice none 0 0)))
  have HD := hx (d.kept ((((Kept.refl [] w).alloc (.cells #[.int .i64 room, .int .i64 now, .slice a n c] 34)).alloc (.cells #[.int .i64 3, .int .i64 m, .int .i64 t] 39)).alloc (.cells #[.int .i64 0, .int .i64 0, .slice none 0 0] 34)))
  have HKW := hx ((((Kept.refl [] w).alloc (.cells #[.int .i64 room, .int .i64 now, .slice a n c] 34)).alloc (.cells #[.int .i64 3, .int .i64 m, .int .i64 t] 39)).alloc (.cells #[.int .i64 0, .int .i64 0, .slice none 0 0] 34))
  have HSZ := hx (show w0.heap.size ≤ w.heap.size + 2 by have h := d.k.size; omega)
  have HSN := hx (show w0.heap.size ≤ w.heap.size from d.k.size)
  have HH := hx (show h.length ≤ 1000000 by have h1 := d.tp.len; have h2 := d.hn; omega)
  have HNO := hx hno
  clear d hPP hno
  go_enter Try.func19, Try.ntmps19
  go_upto_region 1 with fail
  clear hz
  generalize ((w.alloc (.cells #[.int .i64 room, .int .i64 now, .slice a n c] 34)).alloc (.cells #[.int .i64 3, .int .i64 m, .int .i64 t] 39)).alloc (.cells #[.int .i64 0, .int .i64 0, .slice none 0 0] 34) = W at *
  have k0 := BB.out.b1.cell (i := 0) rfl
  have c2 := BB.out.b0.cell (i := 2) rfl
  have hf := BB.out.b0.free
  have B0 := hx (BB.out.b0.set 2 (.slice none 0 0))
  have B2 := hx (BB.out.b2.set_ne (a := ⟨w.heap.size, 2, none⟩) (by simp) (.slice none 0 0))
  have B1 := hx (BB.out.b1.set_ne (a := ⟨w.heap.size, 2, none⟩) (by simp) (.slice none 0 0))
  have HD1 := hx (HD.out.put BB.out.b0 HSN.out ((Kept.refl [w.heap.size] W).setCell (p := ⟨w.heap.size, 2, none⟩) (.inl (by simp)) (.slice none 0 0)))
  have HLN := hx (show (h.length : Int) = (n : Int) by have h1 := HD.out.tp.len; have h2 := HD.out.hn; omega)
  have HKW2 := hx (kept_own HKW.out ((Kept.refl [w.heap.size] W).setCell (p := ⟨w.heap.size, 2, none⟩) (.inl (by simp)) (.slice none 0 0)) (by simp))
  clear BB HD
  go_upto_region 15 with fail
  clear k0 c2 hf
  generalize World.setCell _ _ _ = W3 at *
  have HST := hx (fun w4 (hk : Kept [] W3 w4) => tclear_any q v room now no h w4 (HD1.out.kept hk).ts)
  have HAF := hx (fun w4 (hk : Kept [] W3 w4) w5 (g1 : KeptT w4 w5 q v (.slice none 0 0)) (ts : Ts w5 q (.slice none 0 0) room now no []) => (And.intro (hx (clear_both (HD1.out.kept hk) g1 ts)) (And.intro (hx (blk_ts (hk.blk B2.out (by simp)) (HD1.out.kept hk).ts g1 (by decide) (by decide))) (And.intro (hx (blk_ts (hk.blk B0.out (by simp)) (HD1.out.kept hk).ts g1 (by decide) (by decide))) (And.intro (hx (blk_ts (hk.blk B1.out (by simp)) (HD1.out.kept hk).ts g1 (by decide) (by decide))) (hx (kept_q0 (HKW2.out.trans0 hk) g1.1))))) : Hx (DoT w0 w5 q (.slice none 0 0) room now no [] [] none 0 0) ∧ Hx (Blk w5 (w.heap.size + 2) (set3 0 0 (.slice none 0 0)) 34) ∧ Hx (Blk w5 w.heap.size (set3 room now (.slice none 0 0)) 34) ∧ Hx (Blk w5 (w.heap.size + 1) (op3 3 m t) 39) ∧ Hx (Kept (q :: v.ownBlock.toList) w w5)))
  have cs0 := B0.out.cell (i := 0) (v := .int .i64 room) rfl
  have cs1 := B0.out.cell (i := 1) (v := .int .i64 now) rfl
  have cs2 := B0.out.cell (i := 2) (v := .slice none 0 0) rfl
  have ko0 := B1.out.cell (i := 0) (v := .int .i64 3) rfl
  have hle : ((h.length : Int) == (n : Int)) = true := by rw [beq_iff_eq]; exact HLN.out
  have hle2 : (h.length == n) = true := by rw [beq_iff_eq]; have := HLN.out; omega
  have HS := hx (show ∀ (bs : List Nat) (w3 w4 : World), (w3.cell? ⟨w.heap.size, 0, none⟩ = some (.int .i64 room) ∧ w3.cell? ⟨w.heap.size, 1, none⟩ = some (.int .i64 now) ∧ w3.cell? ⟨w.heap.size, 2, none⟩ = some (.slice none 0 0) ∧ w3.cell? ⟨w.heap.size + 1, 0, none⟩ = some (.int .i64 3)) → Kept bs w3 w4 → w.heap.size ∉ bs → w.heap.size + 1 ∉ bs → (w4.cell? ⟨w.heap.size, 0, none⟩ = some (.int .i64 room) ∧ w4.cell? ⟨w.heap.size, 1, none⟩ = some (.int .i64 now) ∧ w4.cell? ⟨w.heap.size, 2, none⟩ = some (.slice none 0 0) ∧ w4.cell? ⟨w.heap.size + 1, 0, none⟩ = some (.int .i64 3)) from fun bs w3 w4 ⟨h0, h1, h2, h3⟩ hk hb8 hb5 => by
    have hc : ∀ {p : Addr} {v : Value}, w3.cell? p = some v → p.block ∉ bs → w4.cell? p = some v := fun {p v} h hn => by rw [hk.cell (block_lt_of_cell h) hn]; exact h
    exact ⟨hc h0 (by simp only; exact hb8), hc h1 (by simp only; exact hb8), hc h2 (by simp only; exact hb8), hc h3 (by simp only; exact hb5)⟩)
  have hSS : (W3.cell? ⟨w.heap.size, 0, none⟩ = some (.int .i64 room) ∧ W3.cell? ⟨w.heap.size, 1, none⟩ = some (.int .i64 now) ∧ W3.cell? ⟨w.heap.size, 2, none⟩ = some (.slice none 0 0) ∧ W3.cell? ⟨w.heap.size + 1, 0, none⟩ = some (.int .i64 3)) := ⟨cs0, cs1, cs2, ko0⟩
  clear cs0 cs1 cs2 ko0
  go_region_held3 (fun w3 => w3.cell? ⟨w.heap.size, 0, none⟩ = some (.int .i64 room) ∧ w3.cell? ⟨w.heap.size, 1, none⟩ = some (.int .i64 now) ∧ w3.cell? ⟨w.heap.size, 2, none⟩ = some (.slice none 0 0) ∧ w3.cell? ⟨w.heap.size + 1, 0, none⟩ = some (.int .i64 3)) (first | exact hSS | exact HS.out [] _ _ hSS ((Kept.refl _ _).drew) (by simp) (by simp) | assumption | exact HS.out [w.heap.size + 2] _ _ ‹_› ((((Kept.refl [w.heap.size + 2] _).setCell (p := ⟨w.heap.size + 2, 0, none⟩) (.inl (by simp)) _).setCell (p := ⟨w.heap.size + 2, 1, none⟩) (.inl (by simp)) _).setCell (p := ⟨w.heap.size + 2, 2, none⟩) (.inl (by simp)) _) (by simp) (by simp))
    (first | (go_at_call 30; refine (HST.out _ (by first | exact (Kept.refl _ _).drew | exact Kept.refl _ _)).mono ?_; rintro e w5 ⟨rfl, ts, g1⟩; obtain ⟨HD5, HB5, H85, HO5, HG5⟩ := HAF.out _ (by first | exact (Kept.refl _ _).drew | exact Kept.refl _ _) _ g1 ts; clear ts g1; have ct0 := HB5.out.cell (i := 0) rfl; have ct1 := HB5.out.cell (i := 1) rfl; have ct2 := HB5.out.cell (i := 2) rfl; have hf := HB5.out.free; have hSS := (⟨H85.out.cell (i := 0) (v := .int .i64 room) rfl, H85.out.cell (i := 1) (v := .int .i64 now) rfl, H85.out.cell (i := 2) (v := .slice none 0 0) rfl, HO5.out.cell (i := 0) (v := .int .i64 3) rfl⟩ : w5.cell? ⟨w.heap.size, 0, none⟩ = some (.int .i64 room) ∧ w5.cell? ⟨w.heap.size, 1, none⟩ = some (.int .i64 now) ∧ w5.cell? ⟨w.heap.size, 2, none⟩ = some (.slice none 0 0) ∧ w5.cell? ⟨w.heap.size + 1, 0, none⟩ = some (.int .i64 3))))
  all_goals
    go_wp2_with fail
    refine bodyPost_ret (ret_blk2 rfl _ (w.heap.size + 2) 34 (set3 room now (.slice none 0 0)) _ _ rfl rfl (((HB5.out.set 0 (.int .i64 room)).set 1 (.int .i64 now)).set 2 (.slice none 0 0)) Try.underlying34 rfl infoSet) rfl ?_
    rw [← HPP.out]
    exact ⟨_, _, _, _, _, _, _, _, rfl, HD5.out.put HB5.out HSZ.out ((((Kept.refl [w.heap.size + 2] w5).setCell (p := ⟨w.heap.size + 2, 0, none⟩) (.inl (by simp)) (.int .i64 room)).setCell (p := ⟨w.heap.size + 2, 1, none⟩) (.inl (by simp)) (.int .i64 now)).setCell (p := ⟨w.heap.size + 2, 2, none⟩) (.inl (by simp)) (.slice none 0 0)), by omega, kept_qs HG5.out ((((Kept.refl [w.heap.size + 2] w5).setCell (p := ⟨w.heap.size + 2, 0, none⟩) (.inl (by simp)) (.int .i64 room)).setCell (p := ⟨w.heap.size + 2, 1, none⟩) (.inl (by simp)) (.int .i64 now)).setCell (p := ⟨w.heap.size + 2, 2, none⟩) (.inl (by simp)) (.slice none 0 0)) (by omega)⟩
end Go.Proofs.Ythcbacflopbkdaa
