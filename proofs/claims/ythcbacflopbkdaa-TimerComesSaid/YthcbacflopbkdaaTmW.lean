/- The page's example. -/
import Derived.Test.YthcbacflopbkdaaTmO
namespace Go.Proofs.Ythcbacflopbkdaa
open Go Go.RowKit Go.Shelf
/-- A timer made since w0. -/
structure Tq (w0 w : World) (q : Nat) (v : Value) (room now no : Int) (h s : List En) : Prop where
  k : Kept [] w0 w
  hq : w0.heap.size ≤ q
  hv : ∀ g, v.ownBlock = some g → w0.heap.size ≤ g
  ts : Ts w q v room now no h
  tp : Tp h s now no
theorem DoT.tq {w0 w : World} {q : Nat} {v : Value} {room now no : Int} {h s : List En} {a : Option Addr} {n c : Nat} (d : DoT w0 w q v room now no h s a n c) : Tq w0 w q v room now no h s := ⟨d.k, d.hq, d.hv, d.ts, d.tp⟩
theorem Tq.kept {w0 w w2 : World} {q : Nat} {v : Value} {room now no : Int} {h s : List En} (d : Tq w0 w q v room now no h s) (hk : Kept [] w w2) : Tq w0 w2 q v room now no h s := ⟨d.k.trans0 hk, d.hq, d.hv, d.ts.kept hk, d.tp⟩
theorem Tq.step {w0 w w1 : World} {q : Nat} {v v' : Value} {room now no now' no' : Int} {h s h' s' : List En} (d : Tq w0 w q v room now no h s) (hk : KeptT w w1 q v v') (ts : Ts w1 q v' room now' no' h') (tp : Tp h' s' now' no') : Tq w0 w1 q v' room now' no' h' s' :=
  ⟨d.k.trans hk.1 (fun _ h => h) (fun x hx => by
    rcases List.mem_cons.1 hx with rfl | hx
    · exact .inr d.hq
    · exact .inr (d.hv x (by simpa using hx))), d.hq, fun g hg => by
    rcases hk.2 with e | e | ⟨g', e, hg'⟩
    · exact d.hv g (by rw [← e]; exact hg)
    · rw [e] at hg; simp at hg
    · rw [e] at hg
      simp at hg
      have := d.k.size
      omega, ts, tp⟩
/-- A new key is started. -/
theorem tq_new {w0 w : World} {q : Nat} {v : Value} {room now no : Int} {h s : List En} (d : Tq w0 w q v room now no h s) (k ticks : Int) (h1 : 1 ≤ ticks) (h2 : ticks ≤ 1099511627776) (hl : h.length ≤ 1000) (hk : keyAt k h = none) (hr : h.length < room) (hn1 : no ≤ 1000000) :
    Calls Try.prog 15 #[.pointer (some ⟨q, 0, none⟩), .int .i64 k, .int .i64 ticks] w fun e w' => ∃ v', e = .returned (.int .i64 0) ∧ Tq w0 w' q v' room now (no + 1) (h ++ [⟨k, now + ticks, no + 1⟩]) (insE ⟨k, now + ticks, no + 1⟩ s) := by
  refine (tstart_any q v room now no k ticks h w d.ts (by omega) d.tp.no0 (by omega) d.tp.now0 d.tp.now1).mono ?_
  rintro e w' ⟨v', no', h', hkt, ts, hcase⟩
  have hn1 := d.tp.now1
  rcases hcase with ⟨hb, _⟩ | ⟨_, _, _, hb, _⟩ | ⟨_, _, _, _, rfl, rfl, rfl⟩ | ⟨_, _, i, hi, _⟩
  · omega
  · omega
  · exact ⟨v', rfl, d.step hkt ts (d.tp.add (keyAt_none hk) (by omega) (by omega))⟩
  · rw [hk] at hi; simp at hi
/-- Time goes by. -/
theorem tq_tick {w0 w : World} {q : Nat} {v : Value} {room now no : Int} {h s : List En} (d : Tq w0 w q v room now no h s) (ticks N : Int) (n : Nat) (hN : nowT now ticks = N) (hn : dueN N s = n) (hl : h.length ≤ 1000) :
    Calls Try.prog 16 #[.pointer (some ⟨q, 0, none⟩), .int .i64 ticks] w fun e w' => ∃ v' a c, e = .returned (.slice a n c) ∧ n ≤ c ∧ Iz w' a ((s.take n).map (·.key)) ∧ Tq w0 w' q v' room N no (s.drop n) (s.drop n) ∧ KeptT w w' q v v' ∧ (∀ g off, a = some ⟨g, off, none⟩ → w.heap.size ≤ g) ∧ v'.ownBlock = v.ownBlock := by
  refine (tick_any q v room now no ticks h s w d.ts d.tp (by omega)).mono ?_
  rintro e w' ⟨v', a, c, hkt, ts, rfl, hc, hik, hnew, hown⟩
  have tp := d.tp.tick ticks
  rw [hN, hn] at ts tp hc hik
  exact ⟨v', a, c, by rw [hN, hn], hc, hik, d.step hkt ts tp, hkt, hnew, hown⟩
theorem iz_one (w : World) (x : Int) : Iz (w.alloc (.cells #[.int .i64 x] 3)) (some ⟨w.heap.size, 0, none⟩) [x] := fun i hi => by
  obtain rfl : i = 0 := by simp at hi; omega
  exact ⟨w.heap.size, 0, rfl, (Blk.new w [.int .i64 x] 3).cell (i := 0) rfl⟩
/-- A list of another type stays, whatever the timer does. -/
theorem iz_ts {w w1 : World} {q : Nat} {v v' : Value} {a : Option Addr} {l : List Int} (h : Iz w a l) (hk : KeptT w w1 q v v') (hn : ∀ g off, a = some ⟨g, off, none⟩ → g ≠ q ∧ v.ownBlock ≠ some g) : Iz w1 a l := fun i hi => by
  obtain ⟨g, off, h1, h2⟩ := h i hi
  refine ⟨g, off, h1, ?_⟩
  have h3 := hn g off h1
  rw [hk.1.cell (block_lt_of_cell h2) (by simp; exact h3)]
  exact h2
set_option maxRecDepth 100000 in
set_option maxHeartbeats 6400000 in
theorem tawake_any (w : World) : Calls Try.prog 7 #[] w fun e w' => e = .returned (.bool true) ∧ Kept [] w w' := by
  have HN := hx (tnew_any 4 w (by omega) (by omega))
  go_enter Try.func7, Try.ntmps7
  go_wp2_with fail
  refine HN.out.mono ?_
  rintro e w1 ⟨rfl, hs1, hk1⟩
  have T1 := hx (show Tq w w1 w.heap.size (.slice none 0 0) 4 0 0 [] [] from ⟨hk1, Nat.le_refl _, fun g hg => by simp [Value.ownBlock] at hg, hs1, Tp.nil⟩)
  have C1 := hx (tq_new T1.out 7 3 (by omega) (by omega) (by simp) rfl (by simp) (by omega))
  clear hs1 hk1 HN
  go_wp2_with fail
  refine C1.out.mono ?_
  rintro e w2 ⟨v2, rfl, d2⟩
  have T2 := hx (show Tq w w2 w.heap.size v2 4 0 1 [⟨7, 3, 1⟩] [⟨7, 3, 1⟩] from d2)
  have C2 := hx (tq_new T2.out 8 2 (by omega) (by omega) (by simp) rfl (by simp) (by omega))
  clear d2 C1 T1
  go_wp2_with fail
  refine C2.out.mono ?_
  rintro e w3 ⟨v3, rfl, d3⟩
  have T3 := hx (show Tq w w3 w.heap.size v3 4 0 2 [⟨7, 3, 1⟩, ⟨8, 2, 2⟩] [⟨8, 2, 2⟩, ⟨7, 3, 1⟩] from d3)
  have C3 := hx (tq_tick T3.out 2 2 1 rfl rfl (by simp))
  clear d3 C2 T2
  go_wp2_with fail
  refine C3.out.mono ?_
  rintro e w4 ⟨v4, a4, c4, rfl, hc4, hi4, d4, hk4, hn4, ho4⟩
  have T4 := hx (show Tq w w4 w.heap.size v4 4 2 2 [⟨7, 3, 1⟩] [⟨7, 3, 1⟩] from d4)
  have I4 := hx (show Iz w4 a4 [8] from hi4)
  have C4 := hx (tq_tick T4.out 1 3 1 rfl rfl (by simp))
  have N4 := hx (show ∀ g off, a4 = some ⟨g, off, none⟩ → g ≠ w.heap.size ∧ v4.ownBlock ≠ some g from fun g off e => by
    have h1 := hn4 g off e
    have h2 := T3.out.ts.hq.lt
    refine ⟨by omega, fun e2 => ?_⟩
    rw [ho4] at e2
    have := (T3.out.ts.own.lt g e2).2
    omega)
  clear d4 hi4 hk4 hn4 ho4 C3 T3 hc4
  go_wp2_with fail
  refine C4.out.mono ?_
  rintro e w5 ⟨v5, a5, c5, rfl, hc5, hi5, d5, hk5, hn5, ho5⟩
  have T5 := hx (show Tq w w5 w.heap.size v5 4 3 2 [] [] from d5)
  have I5 := hx (show Iz w5 a5 [7] from hi5)
  have I45 := hx (iz_ts I4.out hk5 N4.out)
  clear d5 hi5 hk5 hn5 ho5 C4 T4 hc5 I4 N4
  have HS1 := hx (isame_eq a4 (some ⟨w5.heap.size, 0, none⟩) 1 c4 1 [8] (w5.alloc (.cells #[.int .i64 8] 3)) (I45.out.kept ((Kept.refl [] w5).alloc _)) (iz_one w5 8) rfl (by omega))
  go_wp2_with fail
  refine HS1.out.mono ?_
  rintro e w6 ⟨rfl, hk6⟩
  have K6 := hx (((Kept.refl [] w5).alloc (.cells #[.int .i64 8] 3)).trans0 hk6)
  have HS2 := hx (isame_eq a5 (some ⟨w6.heap.size, 0, none⟩) 1 c5 1 [7] (w6.alloc (.cells #[.int .i64 7] 3)) ((I5.out.kept K6.out).kept ((Kept.refl [] w6).alloc _)) (iz_one w6 7) rfl (by omega))
  clear hk6 HS1
  go_wp2_with fail
  refine HS2.out.mono ?_
  rintro e w7 ⟨rfl, hk7⟩
  have K7 := hx (K6.out.trans0 (((Kept.refl [] w6).alloc (.cells #[.int .i64 7] 3)).trans0 hk7))
  have HNW := hx (tnow_any w.heap.size v5 4 3 2 [] w7 (T5.out.kept K7.out).ts)
  have HK := hx (T5.out.kept K7.out).k
  clear hk7 HS2
  go_wp2_with fail
  refine HNW.out.mono ?_
  rintro e w8 ⟨rfl, rfl⟩
  go_wp2
  go_ret
  exact ⟨rfl, HK.out⟩
end Go.Proofs.Ythcbacflopbkdaa
