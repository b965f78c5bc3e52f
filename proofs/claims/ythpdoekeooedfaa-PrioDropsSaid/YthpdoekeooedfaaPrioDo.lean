/- One call at both queues. Printed by k/gen_do.py. -/
import Derived.Test.YthpdoekeooedfaaPrioDa
namespace Go.Proofs.Ythpdoekeooedfaa
open Go Go.RowKit Go.Shelf
attribute [local go_sem] Oper.semAt_some
set_option maxRecDepth 100000 in
set_option maxHeartbeats 6400000 in
theorem do_other {bs : List Nat} {w0 w : World} {q : Nat} {v : Value} {room T : Int} {h s : List It} {a : Option Addr} {n c : Nat} (d : DoS bs w0 w q v room T h s a n c) (rank x k : Int) (hk0 : k ≠ 0) (hk1 : k ≠ 1) (hk2 : k ≠ 2) (hk3 : k ≠ 3) :
    Calls Try.prog 20 #[.pointer (some ⟨q, 0, none⟩), .agg #[.int .i64 room, .slice a n c], .agg #[.int .i64 k, .int .i64 rank, .int .i64 x]] w (DoP bs w0 room T) := by
  generalize hPP : DoP bs w0 room T = PP
  have HPP := hx hPP
  have hz := zeroQ
  have BB := hx (Bs.new w [.int .i64 room, .slice a n c] [.int .i64 k, .int .i64 rank, .int .i64 x] [.int .i64 0, .slice none 0 0])
  have HD := hx (d.kept ((((Kept.refl [] w).alloc (.cells #[.int .i64 room, .slice a n c] 41)).alloc (.cells #[.int .i64 k, .int .i64 rank, .int .i64 x] 63)).alloc (.cells #[.int .i64 0, .slice none 0 0] 41)))
  have HSZ := hx (show w0.heap.size ≤ w.heap.size + 2 by have h := d.size; omega)
  have HSY := hx d.size
  clear d hPP
  have e0 : (k == 0) = false := by simpa using hk0
  have e1 : (k == 1) = false := by simpa using hk1
  have e2 : (k == 2) = false := by simpa using hk2
  have e3 : (k == 3) = false := by simpa using hk3
  clear hk0 hk1 hk2 hk3
  go_enter Try.func20, Try.ntmps20
  go_upto_region 1 with fail
  clear hz
  generalize ((w.alloc (.cells #[.int .i64 room, .slice a n c] 41)).alloc (.cells #[.int .i64 k, .int .i64 rank, .int .i64 x] 63)).alloc (.cells #[.int .i64 0, .slice none 0 0] 41) = W at *
  have k0 := BB.out.b1.cell (i := 0) rfl
  go_upto_region 2 with fail
  have cs0 := BB.out.b0.cell (i := 0) (v := .int .i64 room) rfl
  have cs1 := BB.out.b0.cell (i := 1) (v := .slice a n c) rfl
  have ct0 := BB.out.b2.cell (i := 0) rfl
  have ct1 := BB.out.b2.cell (i := 1) rfl
  have hf := BB.out.b2.free
  have BF := hx (show Blk _ (w.heap.size + 2) [.int .i64 room, .slice a n c] 41 from ((BB.out.b2.set 0 (.int .i64 room)).set 1 (.slice a n c)).drew)
  have KW := (((Kept.refl [w.heap.size + 2] W).setCell (p := ⟨w.heap.size + 2, 0, none⟩) (.inl (by simp)) (.int .i64 room)).setCell (p := ⟨w.heap.size + 2, 1, none⟩) (.inl (by simp)) (.slice a n c)).drew
  have DF := hx (HD.out.put BB.out.b2 HSZ.out KW)
  clear KW
  go_region
  go_wp2_with fail
  refine bodyPost_ret (ret_tct rfl _ (w.heap.size + 2) _ _ _ _ _ rfl rfl rfl BF.out Try.underlying41 rfl infoQ) rfl ?_
  rw [← HPP.out]
  exact ⟨_, _, _, _, _, _, _, _, rfl, DF.out, by omega, by omega⟩
set_option maxRecDepth 100000 in
set_option maxHeartbeats 6400000 in
theorem do_push {bs : List Nat} {w0 w : World} {q : Nat} {v : Value} {room T : Int} {h s : List It} {a : Option Addr} {n c : Nat} (d : DoS bs w0 w q v room T h s a n c) (rank x : Int) (h100 : n ≤ 90) (ht0 : 0 ≤ T) (ht1 : T ≤ 1000) :
    Calls Try.prog 20 #[.pointer (some ⟨q, 0, none⟩), .agg #[.int .i64 room, .slice a n c], .agg #[.int .i64 0, .int .i64 rank, .int .i64 x]] w (DoP bs w0 room T) := by
  generalize hPP : DoP bs w0 room T = PP
  have HPP := hx hPP
  have hz := zeroQ
  have BB := hx (Bs.new w [.int .i64 room, .slice a n c] [.int .i64 0, .int .i64 rank, .int .i64 x] [.int .i64 0, .slice none 0 0])
  have HD := hx (d.kept ((((Kept.refl [] w).alloc (.cells #[.int .i64 room, .slice a n c] 41)).alloc (.cells #[.int .i64 0, .int .i64 rank, .int .i64 x] 63)).alloc (.cells #[.int .i64 0, .slice none 0 0] 41)))
  have HSZ := hx (show w0.heap.size ≤ w.heap.size + 2 by have h := d.size; omega)
  have HSY := hx d.size
  clear d hPP
  go_enter Try.func20, Try.ntmps20
  go_upto_region 1 with fail
  clear hz
  generalize ((w.alloc (.cells #[.int .i64 room, .slice a n c] 41)).alloc (.cells #[.int .i64 0, .int .i64 rank, .int .i64 x] 63)).alloc (.cells #[.int .i64 0, .slice none 0 0] 41) = W at *
  have k0 := BB.out.b1.cell (i := 0) rfl
  have k1 := BB.out.b1.cell (i := 1) rfl
  have k2 := BB.out.b1.cell (i := 2) rfl
  have HPU := hx (pushS_any HD.out rank x (by omega) ht0 (by omega))
  have HPR := hx (show pushR (s.map pr) (rank, x) room = _ from push_same s ⟨rank, T + 1, x⟩ room)
  have H100 := hx (show n ≤ 100 by omega)
  generalize pushS s ⟨rank, T + 1, x⟩ room = r at *
  obtain ⟨r1, r2, r3⟩ := r
  clear h100 ht0 ht1
  go_wp2_with fail
  refine HPU.out.mono ?_
  rintro e w1 ⟨rfl, v1, h1, hq1, hr1, hl1, hw1, hk1, ho1⟩
  have BB1 := hx (BB.out.qs HD.out.qs hk1)
  have L1 := hx (HD.out.ls.qs HD.out.qs hk1)
  have Q1 := hx (And.intro hq1 (And.intro hr1 (And.intro hl1 hw1)))
  have HN := hx (show (s.map pr).length = n by simpa using HD.out.hn)
  clear BB HPU hq1 hr1 hl1 hw1 hk1 ho1 k0 k1 k2
  have k1 := BB1.out.b1.cell (i := 1) rfl
  have k2 := BB1.out.b1.cell (i := 2) rfl
  have c0 := BB1.out.b0.cell (i := 0) rfl
  have c1 := BB1.out.b0.cell (i := 1) rfl
  have HRP := hx (rpush_any a n c (s.map pr) room rank x w1 L1.out.1 HN.out H100.out)
  rw [HPR.out] at HRP
  go_wp2_with fail
  refine HRP.out.mono ?_
  rintro e w2 ⟨a2, n2, c2, rfl, hn2, hc2, hl2, hk2⟩
  obtain ⟨q1, q2, q3, q4⟩ := Q1.out
  have hd2 := hx (show DoS bs w0 w2 q v1 room (T + 1) h1 r1 a2 n2 c2 from DoS.mk ⟨q4.kept.trans0 hk2, q4.hq, q4.hv⟩ (q1.kept hk2) q2 hl2 (by simpa using hn2) hc2 (by simp at hn2; omega))
  have BB2 := hx (BB1.out.kept hk2)
  clear BB1 HPR HRP L1 Q1 q1 q2 q3 q4 hn2 hc2 hl2 hk2 k1 k2 c0 c1 HD HN H100
  go_upto_region 6 with fail
  have B11 := hx (Blk.new w2 [.int .i64 room, .slice a2 n2 c2] 41)
  have BB3 := hx (BB2.out.kept ((Kept.refl [] w2).alloc (.cells #[.int .i64 room, .slice a2 n2 c2] 41)))
  have HD3 := hx (hd2.out.kept ((Kept.refl [] w2).alloc (.cells #[.int .i64 room, .slice a2 n2 c2] 41)))
  clear BB2 hd2
  generalize w2.heap.size = b11 at *
  generalize w2.alloc (.cells #[.int .i64 room, .slice a2 n2 c2] 41) = W3 at *
  have cs0 := B11.out.cell (i := 0) (v := .int .i64 room) rfl
  have cs1 := B11.out.cell (i := 1) (v := .slice a2 n2 c2) rfl
  have ct0 := BB3.out.b2.cell (i := 0) rfl
  have ct1 := BB3.out.b2.cell (i := 1) rfl
  have hf := BB3.out.b2.free
  have BF := hx (show Blk _ (w.heap.size + 2) [.int .i64 room, .slice a2 n2 c2] 41 from ((BB3.out.b2.set 0 (.int .i64 room)).set 1 (.slice a2 n2 c2)).drew)
  have KW := (((Kept.refl [w.heap.size + 2] W3).setCell (p := ⟨w.heap.size + 2, 0, none⟩) (.inl (by simp)) (.int .i64 room)).setCell (p := ⟨w.heap.size + 2, 1, none⟩) (.inl (by simp)) (.slice a2 n2 c2)).drew
  have DF := hx (HD3.out.put BB3.out.b2 HSZ.out KW)
  clear KW
  go_region
  go_wp2_with fail
  refine bodyPost_ret (ret_tct rfl _ (w.heap.size + 2) _ _ _ _ _ rfl rfl rfl BF.out Try.underlying41 rfl infoQ) rfl ?_
  rw [← HPP.out]
  exact ⟨_, _, _, _, _, _, _, _, rfl, DF.out, by omega, by omega⟩
set_option maxRecDepth 100000 in
set_option maxHeartbeats 6400000 in
theorem do_pop0 {bs : List Nat} {w0 w : World} {q : Nat} {v : Value} {room T : Int} {h : List It} {a : Option Addr} {c : Nat} (d : DoS bs w0 w q v room T h [] a 0 c) (rank x : Int)  :
    Calls Try.prog 20 #[.pointer (some ⟨q, 0, none⟩), .agg #[.int .i64 room, .slice a 0 c], .agg #[.int .i64 1, .int .i64 rank, .int .i64 x]] w (DoP bs w0 room T) := by
  generalize hPP : DoP bs w0 room T = PP
  have HPP := hx hPP
  have hz := zeroQ
  have BB := hx (Bs.new w [.int .i64 room, .slice a 0 c] [.int .i64 1, .int .i64 rank, .int .i64 x] [.int .i64 0, .slice none 0 0])
  have HD := hx (d.kept ((((Kept.refl [] w).alloc (.cells #[.int .i64 room, .slice a 0 c] 41)).alloc (.cells #[.int .i64 1, .int .i64 rank, .int .i64 x] 63)).alloc (.cells #[.int .i64 0, .slice none 0 0] 41)))
  have HSZ := hx (show w0.heap.size ≤ w.heap.size + 2 by have h := d.size; omega)
  have HSY := hx d.size
  clear d hPP
  go_enter Try.func20, Try.ntmps20
  go_upto_region 1 with fail
  clear hz
  generalize ((w.alloc (.cells #[.int .i64 room, .slice a 0 c] 41)).alloc (.cells #[.int .i64 1, .int .i64 rank, .int .i64 x] 63)).alloc (.cells #[.int .i64 0, .slice none 0 0] 41) = W at *
  have k0 := BB.out.b1.cell (i := 0) rfl
  have k1 := BB.out.b1.cell (i := 1) rfl
  have k2 := BB.out.b1.cell (i := 2) rfl
  have HPO := hx (popS q v room T T h [] W HD.out.qs HD.out.rp (by have h1 := HD.out.hn; omega))
  go_wp2_with fail
  refine HPO.out.mono ?_
  rintro e w1 ⟨he, v1, h1, hq1, hr1, ho1, hk1⟩
  simp only [popE] at he
  subst he
  have BB1 := hx (BB.out.qs HD.out.qs hk1)
  have L1 := hx (HD.out.ls.qs HD.out.qs hk1)
  have Q1 := hx (And.intro hq1 (And.intro hr1 (HD.out.qw.next hk1 (.inl ho1))))
  clear BB HPO hq1 hr1 hk1 ho1 k0 k1 k2
  have c0 := BB1.out.b0.cell (i := 0) rfl
  have c1 := BB1.out.b0.cell (i := 1) rfl
  have hd2 := hx (show DoS bs w0 w1 q v1 room T h1 [] a 0 c from DoS.mk Q1.out.2.2 Q1.out.1 Q1.out.2.1 L1.out rfl (by omega) HD.out.hr)
  go_upto_region 10 with fail
  clear c0 c1 HD Q1 L1
  have cs0 := BB1.out.b0.cell (i := 0) (v := .int .i64 room) rfl
  have cs1 := BB1.out.b0.cell (i := 1) (v := .slice a 0 c) rfl
  have ct0 := BB1.out.b2.cell (i := 0) rfl
  have ct1 := BB1.out.b2.cell (i := 1) rfl
  have hf := BB1.out.b2.free
  have BF := hx (show Blk _ (w.heap.size + 2) [.int .i64 room, .slice a 0 c] 41 from ((BB1.out.b2.set 0 (.int .i64 room)).set 1 (.slice a 0 c)).drew)
  have KW := (((Kept.refl [w.heap.size + 2] w1).setCell (p := ⟨w.heap.size + 2, 0, none⟩) (.inl (by simp)) (.int .i64 room)).setCell (p := ⟨w.heap.size + 2, 1, none⟩) (.inl (by simp)) (.slice a 0 c)).drew
  have DF := hx (hd2.out.put BB1.out.b2 HSZ.out KW)
  clear KW
  go_region
  go_wp2_with fail
  refine bodyPost_ret (ret_tct rfl _ (w.heap.size + 2) _ _ _ _ _ rfl rfl rfl BF.out Try.underlying41 rfl infoQ) rfl ?_
  rw [← HPP.out]
  exact ⟨_, _, _, _, _, _, _, _, rfl, DF.out, by omega, by omega⟩
set_option maxRecDepth 100000 in
set_option maxHeartbeats 6400000 in
theorem do_pop1 {bs : List Nat} {w0 w : World} {q : Nat} {v : Value} {room T : Int} {h s : List It} {y : It} {a : Option Addr} {m c : Nat} (d : DoS bs w0 w q v room T h (y :: s) a (m + 1) c) (rank x : Int) (h100 : m + 1 ≤ 90) :
    Calls Try.prog 20 #[.pointer (some ⟨q, 0, none⟩), .agg #[.int .i64 room, .slice a (m + 1) c], .agg #[.int .i64 1, .int .i64 rank, .int .i64 x]] w (DoP bs w0 room T) := by
  generalize hPP : DoP bs w0 room T = PP
  have HPP := hx hPP
  have hz := zeroQ
  have BB := hx (Bs.new w [.int .i64 room, .slice a (m + 1) c] [.int .i64 1, .int .i64 rank, .int .i64 x] [.int .i64 0, .slice none 0 0])
  have HD := hx (d.kept ((((Kept.refl [] w).alloc (.cells #[.int .i64 room, .slice a (m + 1) c] 41)).alloc (.cells #[.int .i64 1, .int .i64 rank, .int .i64 x] 63)).alloc (.cells #[.int .i64 0, .slice none 0 0] 41)))
  have HSZ := hx (show w0.heap.size ≤ w.heap.size + 2 by have h := d.size; omega)
  have HSY := hx d.size
  clear d hPP
  go_enter Try.func20, Try.ntmps20
  go_upto_region 1 with fail
  clear hz
  generalize ((w.alloc (.cells #[.int .i64 room, .slice a (m + 1) c] 41)).alloc (.cells #[.int .i64 1, .int .i64 rank, .int .i64 x] 63)).alloc (.cells #[.int .i64 0, .slice none 0 0] 41) = W at *
  have k0 := BB.out.b1.cell (i := 0) rfl
  have k1 := BB.out.b1.cell (i := 1) rfl
  have k2 := BB.out.b1.cell (i := 2) rfl
  have HPO := hx (popS q v room T T h (y :: s) W HD.out.qs HD.out.rp (by have h1 := HD.out.hn; omega))
  clear h100
  go_wp2_with fail
  refine HPO.out.mono ?_
  rintro e w1 ⟨he, v1, h1, hq1, hr1, ho1, hk1⟩
  simp only [popE] at he
  subst he
  have BB1 := hx (BB.out.qs HD.out.qs hk1)
  have L1 := hx (HD.out.ls.qs HD.out.qs hk1)
  have Q1 := hx (And.intro hq1 (And.intro hr1 (HD.out.qw.next hk1 (.inl ho1))))
  clear BB HPO hq1 hr1 hk1 ho1 k0 k1 k2
  have c0 := BB1.out.b0.cell (i := 0) rfl
  have c1 := BB1.out.b0.cell (i := 1) rfl
  have hm0 : ((((m + 1 : Nat) : Int)) == 0) = false := by simp; omega
  obtain ⟨g, off, rfl, e1, e2⟩ := L1.out.1 0 (by simp)
  simp only [List.map_cons, List.getD_cons_zero, pr, Nat.zero_mul, Nat.add_zero] at e1 e2
  have HM := hx (show s.length = m by have h1 := HD.out.hn; simpa using h1)
  have hcm := HD.out.hc
  go_upto_region 12 with fail
  have B17 := hx (Blk.new w1 [.int .i64 y.rank, .int .i64 y.v] 49)
  have KA := (Kept.refl [] w1).alloc (.cells #[.int .i64 y.rank, .int .i64 y.v] 49)
  have BB3 := hx (BB1.out.kept KA)
  have L3 := hx (L1.out.kept KA)
  have Q3 := hx (And.intro (Q1.out.1.kept KA) (And.intro Q1.out.2.1 (show QX bs w0 _ q v1 from ⟨Q1.out.2.2.kept.trans0 KA, Q1.out.2.2.hq, Q1.out.2.2.hv⟩)))
  have HR := hx HD.out.hr
  have HLT := hx BB1.out.b2.lt
  clear KA BB1 L1 Q1 c0 c1 HD e1 e2
  generalize w1.heap.size = b17 at *
  generalize w1.alloc (.cells #[.int .i64 y.rank, .int .i64 y.v] 49) = W3 at *
  have c1 := BB3.out.b0.cell (i := 1) rfl
  have hf := BB3.out.b0.free
  rcases Nat.eq_or_lt_of_le (show 1 ≤ c by omega) with hc1 | hc1
  · obtain rfl : c = 1 := hc1.symm
    obtain rfl : m = 0 := by omega
    obtain rfl : s = [] := List.eq_nil_of_length_eq_zero HM.out
    have HL := hx (show LsT W3 (some ⟨g, off, none⟩) (([] : List It).map pr) from ⟨fun i hi => by simp at hi, fun h => absurd rfl h⟩)
    have HD3 := hx (show DoS bs w0 W3 q v1 room T h1 [] (some ⟨g, off, none⟩) 0 0 from DoS.mk Q3.out.2.2 Q3.out.1 Q3.out.2.1 HL.out rfl (by omega) (by have h1 := HR.out; omega))
    have HD4 := hx (HD3.out.put BB3.out.b0 (by have h1 := HSZ.out; have h2 := HSY.out; omega) ((Kept.refl [w.heap.size] W3).setCell (p := ⟨w.heap.size, 1, none⟩) (.inl (by simp)) (.slice (some ⟨g, off, none⟩) 0 0)))
    have B0 := hx (BB3.out.b0.set 1 (.slice (some ⟨g, off, none⟩) 0 0))
    have B2 := hx (BB3.out.b2.set_ne (a := ⟨w.heap.size, 1, none⟩) (by simp) (.slice (some ⟨g, off, none⟩) 0 0))
    have BI := hx (B17.out.set_ne (a := ⟨w.heap.size, 1, none⟩) (fun e => absurd (BB3.out.b0.ty (show Blk W3 w.heap.size _ _ from e ▸ B17.out)) (by decide)) (.slice (some ⟨g, off, none⟩) 0 0))
    clear L3 Q3 B17
    go_upto_region 13 with fail
    clear c1 hf HD3 BB3
    generalize World.setCell _ _ _ = W4 at *
    have ci0 := BI.out.cell (i := 0) rfl
    have ci1 := BI.out.cell (i := 1) rfl
    have hn1 : ¬ b17 = w.heap.size + 1 + 1 := by have h1 := HLT.out; omega
    have hn2 : ¬ w.heap.size + 1 + 1 = b17 := by have h1 := HLT.out; omega
    have cs0 := B0.out.cell (i := 0) (v := .int .i64 room) rfl
    have cs1 := B0.out.cell (i := 1) (v := .slice (some ⟨g, off, none⟩) 0 0) rfl
    have ct0 := B2.out.cell (i := 0) rfl
    have ct1 := B2.out.cell (i := 1) rfl
    have hf := B2.out.free
    have BF := hx (show Blk _ (w.heap.size + 2) [.int .i64 room, .slice (some ⟨g, off, none⟩) 0 0] 41 from ((B2.out.set 0 (.int .i64 room)).set 1 (.slice (some ⟨g, off, none⟩) 0 0)).drew)
    have KW := (((Kept.refl [w.heap.size + 2] W4).setCell (p := ⟨w.heap.size + 2, 0, none⟩) (.inl (by simp)) (.int .i64 room)).setCell (p := ⟨w.heap.size + 2, 1, none⟩) (.inl (by simp)) (.slice (some ⟨g, off, none⟩) 0 0)).drew
    have DF := hx (HD4.out.put B2.out HSZ.out KW)
    clear KW
    go_region
    go_wp2_with fail
    refine bodyPost_ret (ret_tct rfl _ (w.heap.size + 2) _ _ _ _ _ rfl rfl rfl BF.out Try.underlying41 rfl infoQ) rfl ?_
    rw [← HPP.out]
    exact ⟨_, _, _, _, _, _, _, _, rfl, DF.out, by omega, by omega⟩
  · have HL := hx L3.out.tail
    have HD3 := hx (show DoS bs w0 W3 q v1 room T h1 s (some ⟨g, off + 2, none⟩) m (c - 1) from DoS.mk Q3.out.2.2 Q3.out.1 Q3.out.2.1 HL.out HM.out (by omega) (by have h1 := HR.out; omega))
    have HD4 := hx (HD3.out.put BB3.out.b0 (by have h1 := HSZ.out; have h2 := HSY.out; omega) ((Kept.refl [w.heap.size] W3).setCell (p := ⟨w.heap.size, 1, none⟩) (.inl (by simp)) (.slice (some ⟨g, off + 2, none⟩) m (c - 1))))
    have B0 := hx (BB3.out.b0.set 1 (.slice (some ⟨g, off + 2, none⟩) m (c - 1)))
    have B2 := hx (BB3.out.b2.set_ne (a := ⟨w.heap.size, 1, none⟩) (by simp) (.slice (some ⟨g, off + 2, none⟩) m (c - 1)))
    have BI := hx (B17.out.set_ne (a := ⟨w.heap.size, 1, none⟩) (fun e => absurd (BB3.out.b0.ty (show Blk W3 w.heap.size _ _ from e ▸ B17.out)) (by decide)) (.slice (some ⟨g, off + 2, none⟩) m (c - 1)))
    clear L3 Q3 B17
    go_upto_region 13 with fail
    clear c1 hf HD3 BB3
    generalize World.setCell _ _ _ = W4 at *
    have ci0 := BI.out.cell (i := 0) rfl
    have ci1 := BI.out.cell (i := 1) rfl
    have hn1 : ¬ b17 = w.heap.size + 1 + 1 := by have h1 := HLT.out; omega
    have hn2 : ¬ w.heap.size + 1 + 1 = b17 := by have h1 := HLT.out; omega
    have cs0 := B0.out.cell (i := 0) (v := .int .i64 room) rfl
    have cs1 := B0.out.cell (i := 1) (v := .slice (some ⟨g, off + 2, none⟩) m (c - 1)) rfl
    have ct0 := B2.out.cell (i := 0) rfl
    have ct1 := B2.out.cell (i := 1) rfl
    have hf := B2.out.free
    have BF := hx (show Blk _ (w.heap.size + 2) [.int .i64 room, .slice (some ⟨g, off + 2, none⟩) m (c - 1)] 41 from ((B2.out.set 0 (.int .i64 room)).set 1 (.slice (some ⟨g, off + 2, none⟩) m (c - 1))).drew)
    have KW := (((Kept.refl [w.heap.size + 2] W4).setCell (p := ⟨w.heap.size + 2, 0, none⟩) (.inl (by simp)) (.int .i64 room)).setCell (p := ⟨w.heap.size + 2, 1, none⟩) (.inl (by simp)) (.slice (some ⟨g, off + 2, none⟩) m (c - 1))).drew
    have DF := hx (HD4.out.put B2.out HSZ.out KW)
    clear KW
    go_region
    go_wp2_with fail
    refine bodyPost_ret (ret_tct rfl _ (w.heap.size + 2) _ _ _ _ _ rfl rfl rfl BF.out Try.underlying41 rfl infoQ) rfl ?_
    rw [← HPP.out]
    exact ⟨_, _, _, _, _, _, _, _, rfl, DF.out, by omega, by omega⟩
set_option maxRecDepth 100000 in
set_option maxHeartbeats 6400000 in
theorem do_fil1 {bs : List Nat} {w0 w : World} {q : Nat} {v : Value} {room T : Int} {h s : List It} {a : Option Addr} {n c : Nat} (d : DoS bs w0 w q v room T h s a n c) (rank x : Int) (hx1 : x < 1) (h100 : n ≤ 90) :
    Calls Try.prog 20 #[.pointer (some ⟨q, 0, none⟩), .agg #[.int .i64 room, .slice a n c], .agg #[.int .i64 2, .int .i64 rank, .int .i64 x]] w (DoP bs w0 room T) := by
  generalize hPP : DoP bs w0 room T = PP
  have HPP := hx hPP
  have hz := zeroQ
  have BB := hx (Bs.new w [.int .i64 room, .slice a n c] [.int .i64 2, .int .i64 rank, .int .i64 x] [.int .i64 0, .slice none 0 0])
  have HD := hx (d.kept ((((Kept.refl [] w).alloc (.cells #[.int .i64 room, .slice a n c] 41)).alloc (.cells #[.int .i64 2, .int .i64 rank, .int .i64 x] 63)).alloc (.cells #[.int .i64 0, .slice none 0 0] 41)))
  have HSZ := hx (show w0.heap.size ≤ w.heap.size + 2 by have h := d.size; omega)
  have HSY := hx d.size
  clear d hPP
  go_enter Try.func20, Try.ntmps20
  go_upto_region 1 with fail
  clear hz
  generalize ((w.alloc (.cells #[.int .i64 room, .slice a n c] 41)).alloc (.cells #[.int .i64 2, .int .i64 rank, .int .i64 x] 63)).alloc (.cells #[.int .i64 0, .slice none 0 0] 41) = W at *
  have k0 := BB.out.b1.cell (i := 0) rfl
  have k2 := BB.out.b1.cell (i := 2) rfl
  have HBY := hx (show (1 : Int) ≤ 1 by omega)
  have H100 := hx (show n ≤ 100 by omega)
  have KA := (Kept.refl [] W).alloc (.cells #[.int .i64 1] 3)
  have BY := hx (Blk.new W [.int .i64 1] 3)
  have BB1 := hx (BB.out.kept KA)
  have HD1 := hx (HD.out.kept KA)
  clear h100 KA
  go_upto_region 17 with fail
  clear k0 k2 BB HD hx1
  generalize W.heap.size = b18 at *
  generalize W.alloc (.cells #[.int .i64 1] 3) = W1 at *
  have HF := hx (filS_any HD1.out b18 1 (BY.out.cell rfl) HBY.out H100.out)
  refine HF.out.mono ?_
  rintro e w2 ⟨rfl, v1, h1, hq1, hr1, hw1, hk1⟩
  have BB2 := hx (BB1.out.qs HD1.out.qs hk1)
  have L2 := hx (HD1.out.ls.qs HD1.out.qs hk1)
  have BY2 := hx (BY.out.qs HD1.out.qs hk1 (by decide) (by decide))
  have Q2 := hx (And.intro hq1 (And.intro hr1 hw1))
  have HN := hx HD1.out.hn
  have HR := hx HD1.out.hr
  have HFL := hx (List.length_filter_le (keepI 1) s)
  have HRF := hx (rfilS_any (room := room) (c := c) L2.out HN.out H100.out HBY.out)
  clear BB1 HD1 HF BY hq1 hr1 hw1 hk1
  generalize s.filter (keepI 1) = r at *
  generalize (s.length : Int) - (r.length : Int) = K at *
  have c0 := BB2.out.b0.cell (i := 0) rfl
  have c1 := BB2.out.b0.cell (i := 1) rfl
  have cb := BY2.out.cell (i := 0) rfl
  go_wp2_with fail
  refine HRF.out.mono ?_
  rintro e w3 ⟨a2, n2, c2, rfl, hn2, hc2, hl2, hk2⟩
  have hd3 := hx (show DoS bs w0 w3 q v1 room T h1 r a2 n2 c2 from DoS.mk ⟨Q2.out.2.2.kept.trans0 hk2, Q2.out.2.2.hq, Q2.out.2.2.hv⟩ (Q2.out.1.kept hk2) Q2.out.2.1 hl2 hn2 hc2 (by have h1 := HN.out; have h2 := HR.out; have h3 := HFL.out; omega))
  have BB3 := hx (BB2.out.kept hk2)
  clear BB2 HRF L2 Q2 hn2 hc2 hl2 hk2 c0 c1 cb HN HFL
  go_upto_region 18 with fail
  have B11 := hx (Blk.new w3 [.int .i64 room, .slice a2 n2 c2] 41)
  have KB := (Kept.refl [] w3).alloc (.cells #[.int .i64 room, .slice a2 n2 c2] 41)
  have BB4 := hx (BB3.out.kept KB)
  have HD4 := hx (hd3.out.kept KB)
  clear BB3 hd3 KB
  generalize w3.heap.size = b11 at *
  generalize w3.alloc (.cells #[.int .i64 room, .slice a2 n2 c2] 41) = W3 at *
  have cs0 := B11.out.cell (i := 0) (v := .int .i64 room) rfl
  have cs1 := B11.out.cell (i := 1) (v := .slice a2 n2 c2) rfl
  have ct0 := BB4.out.b2.cell (i := 0) rfl
  have ct1 := BB4.out.b2.cell (i := 1) rfl
  have hf := BB4.out.b2.free
  have BF := hx (show Blk _ (w.heap.size + 2) [.int .i64 room, .slice a2 n2 c2] 41 from ((BB4.out.b2.set 0 (.int .i64 room)).set 1 (.slice a2 n2 c2)).drew)
  have KW := (((Kept.refl [w.heap.size + 2] W3).setCell (p := ⟨w.heap.size + 2, 0, none⟩) (.inl (by simp)) (.int .i64 room)).setCell (p := ⟨w.heap.size + 2, 1, none⟩) (.inl (by simp)) (.slice a2 n2 c2)).drew
  have DF := hx (HD4.out.put BB4.out.b2 HSZ.out KW)
  clear KW
  go_region
  go_wp2_with fail
  refine bodyPost_ret (ret_tct rfl _ (w.heap.size + 2) _ _ _ _ _ rfl rfl rfl BF.out Try.underlying41 rfl infoQ) rfl ?_
  rw [← HPP.out]
  exact ⟨_, _, _, _, _, _, _, _, rfl, DF.out, by omega, by omega⟩
set_option maxRecDepth 100000 in
set_option maxHeartbeats 6400000 in
theorem do_fil2 {bs : List Nat} {w0 w : World} {q : Nat} {v : Value} {room T : Int} {h s : List It} {a : Option Addr} {n c : Nat} (d : DoS bs w0 w q v room T h s a n c) (rank x : Int) (hx1 : 1 ≤ x) (h100 : n ≤ 90) :
    Calls Try.prog 20 #[.pointer (some ⟨q, 0, none⟩), .agg #[.int .i64 room, .slice a n c], .agg #[.int .i64 2, .int .i64 rank, .int .i64 x]] w (DoP bs w0 room T) := by
  generalize hPP : DoP bs w0 room T = PP
  have HPP := hx hPP
  have hz := zeroQ
  have BB := hx (Bs.new w [.int .i64 room, .slice a n c] [.int .i64 2, .int .i64 rank, .int .i64 x] [.int .i64 0, .slice none 0 0])
  have HD := hx (d.kept ((((Kept.refl [] w).alloc (.cells #[.int .i64 room, .slice a n c] 41)).alloc (.cells #[.int .i64 2, .int .i64 rank, .int .i64 x] 63)).alloc (.cells #[.int .i64 0, .slice none 0 0] 41)))
  have HSZ := hx (show w0.heap.size ≤ w.heap.size + 2 by have h := d.size; omega)
  have HSY := hx d.size
  clear d hPP
  go_enter Try.func20, Try.ntmps20
  go_upto_region 1 with fail
  clear hz
  generalize ((w.alloc (.cells #[.int .i64 room, .slice a n c] 41)).alloc (.cells #[.int .i64 2, .int .i64 rank, .int .i64 x] 63)).alloc (.cells #[.int .i64 0, .slice none 0 0] 41) = W at *
  have k0 := BB.out.b1.cell (i := 0) rfl
  have k2 := BB.out.b1.cell (i := 2) rfl
  have HBY := hx (show (1 : Int) ≤ x by omega)
  have H100 := hx (show n ≤ 100 by omega)
  have KA := (Kept.refl [] W).alloc (.cells #[.int .i64 x] 3)
  have BY := hx (Blk.new W [.int .i64 x] 3)
  have BB1 := hx (BB.out.kept KA)
  have HD1 := hx (HD.out.kept KA)
  clear h100 KA
  go_upto_region 17 with fail
  clear k0 k2 BB HD hx1
  generalize W.heap.size = b18 at *
  generalize W.alloc (.cells #[.int .i64 x] 3) = W1 at *
  have HF := hx (filS_any HD1.out b18 x (BY.out.cell rfl) HBY.out H100.out)
  refine HF.out.mono ?_
  rintro e w2 ⟨rfl, v1, h1, hq1, hr1, hw1, hk1⟩
  have BB2 := hx (BB1.out.qs HD1.out.qs hk1)
  have L2 := hx (HD1.out.ls.qs HD1.out.qs hk1)
  have BY2 := hx (BY.out.qs HD1.out.qs hk1 (by decide) (by decide))
  have Q2 := hx (And.intro hq1 (And.intro hr1 hw1))
  have HN := hx HD1.out.hn
  have HR := hx HD1.out.hr
  have HFL := hx (List.length_filter_le (keepI x) s)
  have HRF := hx (rfilS_any (room := room) (c := c) L2.out HN.out H100.out HBY.out)
  clear BB1 HD1 HF BY hq1 hr1 hw1 hk1
  generalize s.filter (keepI x) = r at *
  generalize (s.length : Int) - (r.length : Int) = K at *
  have c0 := BB2.out.b0.cell (i := 0) rfl
  have c1 := BB2.out.b0.cell (i := 1) rfl
  have cb := BY2.out.cell (i := 0) rfl
  go_wp2_with fail
  refine HRF.out.mono ?_
  rintro e w3 ⟨a2, n2, c2, rfl, hn2, hc2, hl2, hk2⟩
  have hd3 := hx (show DoS bs w0 w3 q v1 room T h1 r a2 n2 c2 from DoS.mk ⟨Q2.out.2.2.kept.trans0 hk2, Q2.out.2.2.hq, Q2.out.2.2.hv⟩ (Q2.out.1.kept hk2) Q2.out.2.1 hl2 hn2 hc2 (by have h1 := HN.out; have h2 := HR.out; have h3 := HFL.out; omega))
  have BB3 := hx (BB2.out.kept hk2)
  clear BB2 HRF L2 Q2 hn2 hc2 hl2 hk2 c0 c1 cb HN HFL
  go_upto_region 18 with fail
  have B11 := hx (Blk.new w3 [.int .i64 room, .slice a2 n2 c2] 41)
  have KB := (Kept.refl [] w3).alloc (.cells #[.int .i64 room, .slice a2 n2 c2] 41)
  have BB4 := hx (BB3.out.kept KB)
  have HD4 := hx (hd3.out.kept KB)
  clear BB3 hd3 KB
  generalize w3.heap.size = b11 at *
  generalize w3.alloc (.cells #[.int .i64 room, .slice a2 n2 c2] 41) = W3 at *
  have cs0 := B11.out.cell (i := 0) (v := .int .i64 room) rfl
  have cs1 := B11.out.cell (i := 1) (v := .slice a2 n2 c2) rfl
  have ct0 := BB4.out.b2.cell (i := 0) rfl
  have ct1 := BB4.out.b2.cell (i := 1) rfl
  have hf := BB4.out.b2.free
  have BF := hx (show Blk _ (w.heap.size + 2) [.int .i64 room, .slice a2 n2 c2] 41 from ((BB4.out.b2.set 0 (.int .i64 room)).set 1 (.slice a2 n2 c2)).drew)
  have KW := (((Kept.refl [w.heap.size + 2] W3).setCell (p := ⟨w.heap.size + 2, 0, none⟩) (.inl (by simp)) (.int .i64 room)).setCell (p := ⟨w.heap.size + 2, 1, none⟩) (.inl (by simp)) (.slice a2 n2 c2)).drew
  have DF := hx (HD4.out.put BB4.out.b2 HSZ.out KW)
  clear KW
  go_region
  go_wp2_with fail
  refine bodyPost_ret (ret_tct rfl _ (w.heap.size + 2) _ _ _ _ _ rfl rfl rfl BF.out Try.underlying41 rfl infoQ) rfl ?_
  rw [← HPP.out]
  exact ⟨_, _, _, _, _, _, _, _, rfl, DF.out, by omega, by omega⟩
set_option maxRecDepth 100000 in
set_option maxHeartbeats 6400000 in
theorem do_clone {bs : List Nat} {w0 w : World} {q : Nat} {v : Value} {room T : Int} {h s : List It} {a : Option Addr} {n c : Nat} (d : DoS bs w0 w q v room T h s a n c) (rank x : Int) (h100 : n ≤ 90) (ht0 : 0 ≤ T) (ht1 : T ≤ 1000) :
    Calls Try.prog 20 #[.pointer (some ⟨q, 0, none⟩), .agg #[.int .i64 room, .slice a n c], .agg #[.int .i64 3, .int .i64 rank, .int .i64 x]] w (DoP bs w0 room T) := by
  generalize hPP : DoP bs w0 room T = PP
  have HPP := hx hPP
  have hz := zeroQ
  have BB := hx (Bs.new w [.int .i64 room, .slice a n c] [.int .i64 3, .int .i64 rank, .int .i64 x] [.int .i64 0, .slice none 0 0])
  have HD := hx (d.kept ((((Kept.refl [] w).alloc (.cells #[.int .i64 room, .slice a n c] 41)).alloc (.cells #[.int .i64 3, .int .i64 rank, .int .i64 x] 63)).alloc (.cells #[.int .i64 0, .slice none 0 0] 41)))
  have HSZ := hx (show w0.heap.size ≤ w.heap.size + 2 by have h := d.size; omega)
  have HSY := hx d.size
  clear d hPP
  go_enter Try.func20, Try.ntmps20
  go_upto_region 1 with fail
  clear hz
  generalize ((w.alloc (.cells #[.int .i64 room, .slice a n c] 41)).alloc (.cells #[.int .i64 3, .int .i64 rank, .int .i64 x] 63)).alloc (.cells #[.int .i64 0, .slice none 0 0] 41) = W at *
  have k0 := BB.out.b1.cell (i := 0) rfl
  have k1 := BB.out.b1.cell (i := 1) rfl
  have k2 := BB.out.b1.cell (i := 2) rfl
  have HCL := hx (cloS_any HD.out (by omega))
  have H100 := hx h100
  have HT := hx (And.intro ht0 ht1)
  clear h100 ht0 ht1
  go_wp2_with fail
  refine HCL.out.mono ?_
  rintro e w1 ⟨q2, v2, rfl, d2, hge, hk1⟩
  have BB1 := hx (BB.out.kept hk1)
  have HD1 := hx (HD.out.kept hk1)
  have HD2 := hx d2
  have HGE := hx hge
  have HLT := hx HD.out.qs.lt
  have HPU := hx (pushS_any HD1.out rank x (by have h1 := H100.out; omega) HT.out.1 (by have h1 := HT.out.2; omega))
  have HPL := hx (push_len s ⟨rank, T + 1, x⟩ room)
  generalize pushS s ⟨rank, T + 1, x⟩ room = r at *
  clear BB HD HCL d2 hge hk1 k0 k1 k2
  have k1 := BB1.out.b1.cell (i := 1) rfl
  have k2 := BB1.out.b1.cell (i := 2) rfl
  go_wp2_with fail
  refine HPU.out.mono ?_
  rintro e w2 ⟨rfl, v1, h1, hq1, hr1, hl1, hw1, hk2, ho1⟩
  have BB2 := hx (BB1.out.qs HD1.out.qs hk2)
  have HD3 := hx (HD2.out.other hk2 HD1.out.qw.own (fun b hb hc => by have e1 := HLT.out b hb; have e2 := HGE.out b hc; omega) (fun b hb xs hc => HD1.out.qs.free hc (by decide) (by decide) hb))
  have HPO := hx (popS q v1 room (T + 1) (T + 1) h1 r.1 w2 hq1 hr1 (by have e1 := HPL.out; have e2 := HD1.out.hn; have e3 := H100.out; omega))
  have HSP := hx (show ∀ b, b ∈ q :: v1.ownBlock.toList → b ∉ q2 :: v2.ownBlock.toList by
    intro b hb hc
    have e1 := HD2.out.qs.lt b hc
    have e2 := HGE.out b hc
    simp only [List.mem_cons, Option.mem_toList] at hb
    rcases hb with rfl | hb
    · have e3 := HLT.out b (by simp); omega
    · rcases ho1 with ho | ⟨g, hg, hgw⟩
      · have e3 := HLT.out b (by rw [← ho]; simp [hb]); omega
      · rw [hg] at hb
        simp only [Option.some.injEq] at hb
        omega)
  have Q2 := hx (And.intro hq1 hw1)
  clear BB1 HD2 HD1 HPU hq1 hr1 hl1 hw1 hk2 ho1 k1 k2 HLT HGE
  go_wp2_with fail
  refine HPO.out.mono ?_
  rintro e w3 ⟨he, v3, h3, hq3, hr3, ho3, hk3⟩
  have BB3 := hx (BB2.out.qs Q2.out.1 hk3)
  have HD4 := hx (HD3.out.other hk3 Q2.out.2.own HSP.out (fun b hb xs hc => Q2.out.1.free hc (by decide) (by decide) hb))
  have he2 := hx he
  obtain ⟨u, rfl⟩ : ∃ u, e = .returned u := by
    rw [he]
    cases r.1 <;> exact ⟨_, rfl⟩
  clear he he2 BB2 HPO HSP Q2 HD3 hq3 hr3 ho3 hk3
  go_upto_region 25 with fail
  have cs0 := BB3.out.b0.cell (i := 0) (v := .int .i64 room) rfl
  have cs1 := BB3.out.b0.cell (i := 1) (v := .slice a n c) rfl
  have ct0 := BB3.out.b2.cell (i := 0) rfl
  have ct1 := BB3.out.b2.cell (i := 1) rfl
  have hf := BB3.out.b2.free
  have BF := hx (show Blk _ (w.heap.size + 2) [.int .i64 room, .slice a n c] 41 from ((BB3.out.b2.set 0 (.int .i64 room)).set 1 (.slice a n c)).drew)
  have KW := (((Kept.refl [w.heap.size + 2] w3).setCell (p := ⟨w.heap.size + 2, 0, none⟩) (.inl (by simp)) (.int .i64 room)).setCell (p := ⟨w.heap.size + 2, 1, none⟩) (.inl (by simp)) (.slice a n c)).drew
  have DF := hx (HD4.out.put BB3.out.b2 HSZ.out KW)
  clear KW
  go_region
  go_wp2_with fail
  refine bodyPost_ret (ret_tct rfl _ (w.heap.size + 2) _ _ _ _ _ rfl rfl rfl BF.out Try.underlying41 rfl infoQ) rfl ?_
  rw [← HPP.out]
  exact ⟨_, _, _, _, _, _, _, _, rfl, DF.out, by omega, by omega⟩
theorem do_any {bs : List Nat} {w0 w : World} {q : Nat} {v : Value} {room T : Int} {h s : List It} {a : Option Addr} {n c : Nat} (d : DoS bs w0 w q v room T h s a n c) (k rank x : Int) (h100 : n ≤ 90) (ht0 : 0 ≤ T) (ht1 : T ≤ 1000) :
    Calls Try.prog 20 #[.pointer (some ⟨q, 0, none⟩), .agg #[.int .i64 room, .slice a n c], .agg #[.int .i64 k, .int .i64 rank, .int .i64 x]] w (DoP bs w0 room T) := by
  by_cases h0 : k = 0
  · subst h0; exact do_push d rank x h100 ht0 ht1
  by_cases h1 : k = 1
  · subst h1
    have hn := d.hn
    cases s with
    | nil =>
      simp only [List.length_nil] at hn
      subst hn
      exact do_pop0 d rank x
    | cons y s =>
      simp only [List.length_cons] at hn
      subst hn
      exact do_pop1 d rank x h100
  by_cases h2 : k = 2
  · subst h2
    by_cases hx1 : x < 1
    · exact do_fil1 d rank x hx1 h100
    · exact do_fil2 d rank x (by omega) h100
  by_cases h3 : k = 3
  · subst h3; exact do_clone d rank x h100 ht0 ht1
  exact do_other d rank x k h0 h1 h2 h3
/-- .. and all that it turns is the queue's own. -/
theorem do_all {w0 w : World} {q : Nat} {v : Value} {room T : Int} {h s : List It} {a : Option Addr} {n c : Nat} (d : DoS [] w0 w q v room T h s a n c) (k rank x : Int) (h100 : n ≤ 90) (ht0 : 0 ≤ T) (ht1 : T ≤ 1000) :
    Calls Try.prog 20 #[.pointer (some ⟨q, 0, none⟩), .agg #[.int .i64 room, .slice a n c], .agg #[.int .i64 k, .int .i64 rank, .int .i64 x]] w fun e w' => DoP [] w0 room T e w' ∧ Kept (q :: v.ownBlock.toList) w w' := by
  have d2 : DoS (q :: v.ownBlock.toList) w w q v room T h s a n c := ⟨⟨Kept.refl _ _, .inl (by simp), fun g hg => .inl (by simp [hg])⟩, d.qs, d.rp, d.ls, d.hn, d.hc, d.hr⟩
  refine (do_any d2 k rank x h100 ht0 ht1).mono ?_
  rintro e w' ⟨q', v', T', h', s', a', n', c', rfl, d', h1, h2⟩
  have hown : ∀ b, b ∈ q :: v.ownBlock.toList → b ∈ ([] : List Nat) ∨ w0.heap.size ≤ b := d.qw.own
  have hall : ∀ b, b ∈ q' :: v'.ownBlock.toList → b ∈ ([] : List Nat) ∨ w0.heap.size ≤ b := fun b hb => by
    rcases d'.qw.own b hb with h3 | h3
    · exact hown b h3
    · exact .inr (Nat.le_trans d.size h3)
  exact ⟨⟨q', v', T', h', s', a', n', c', rfl, ⟨⟨d.qw.kept.trans d'.qw.kept (fun _ h => h) hown, hall q' (by simp), fun g hg => hall g (by simp [hg])⟩, d'.qs, d'.rp, d'.ls, d'.hn, d'.hc, d'.hr⟩, h1, h2⟩, d'.qw.kept⟩
end Go.Proofs.Ythpdoekeooedfaa

