/- The law: what a drop takes. -/
import Derived.Test.YthpdoekeooedfaaPrioPl
import Derived.Test.YthpdoekeooedfaaPrioDd
import Derived.Test.YthpdoekeooedfaaQuietR
namespace Go.Proofs.Ythpdoekeooedfaa
open Go Go.RowKit Go.Shelf
attribute [local go_sem] Oper.semAt_some
theorem wp_blind {P : Program} {c : Code} {Q : Exit → Act → World → Prop} {a : Act} {w : World} (h : c.wp P (fun e a w => match e with | .normal => Q .normal a w | _ => False) a w) : c.wp P Q a w :=
  wp_mono h fun e a w hq => by cases e <;> first | exact hq | exact hq.elim
set_option maxRecDepth 100000 in
set_option maxHeartbeats 12000000 in
theorem law_prio_drops (room rank : Int) (a : Option Addr) (len cap : Nat) (w : World) (hA : Ops w a len cap) :
    Calls Try.prog 6 #[.int .i64 room, .slice a len cap, .int .i64 rank] w fun e w' => e = .returned (.bool true) ∧ Kept [] w w' := by
  have HA := hx hA
  clear hA
  refine (callsIn_wide (n := 6)).1 ?_
  refine callsIn_of_wp_marks Try.func6 rfl trivial ?_ rfl
  simp only [Try.ntmps6, List.size_toArray, List.length_cons, List.length_nil, Nat.reduceAdd, Nat.reduceSub, Array.replicate_succ, Array.replicate_zero, List.push_toArray, List.append_toArray, List.nil_append, List.cons_append]
  refine wpIn_wide.2 ?_
  go_wp2_with fail
  have B0 := hx ((Blk.new w [.int .i64 rank] 3).alloc (.cells #[.bool false] 4))
  have B1 := hx (show Blk ((w.alloc (.cells #[.int .i64 rank] 3)).alloc (.cells #[.bool false] 4)) (w.heap.size + 1) [.bool false] 4 by
    have h := Blk.new (w.alloc (.cells #[.int .i64 rank] 3)) [.bool false] 4
    rw [World.size_alloc] at h
    exact h)
  have K0 := hx (((Kept.refl [] w).alloc (.cells #[.int .i64 rank] 3)).alloc (.cells #[.bool false] 4))
  generalize (w.alloc (.cells #[.int .i64 rank] 3)).alloc (.cells #[.bool false] 4) = W0 at *
  refine (qawake_any _).mono ?_
  rintro e w1 ⟨rfl, hk1⟩
  have B01 := hx (hk1.blk B0.out (by simp))
  have B11 := hx (hk1.blk B1.out (by simp))
  have K1 := hx (K0.out.trans0 hk1)
  have HP := hx (played_any room a len cap w1 (HA.out.kept K1.out))
  clear B0 B1 K0 hk1 HA
  go_wp2_with fail
  refine HP.out.mono ?_
  rintro e w2 hp
  rcases hp with ⟨rfl, hk2⟩ | ⟨hr1, hr40, q, v, T, h, s, b, n, c, rfl, hd, ht0, ht80⟩
  · have B12 := hx ((hk2.blk B11.out (by simp)).alloc (.cells #[.int .i64 room, .slice none 0 0] 41))
    have K2 := hx ((K1.out.trans0 hk2).alloc (.cells #[.int .i64 room, .slice none 0 0] 41))
    clear hk2 B01 B11 K1 HP
    go_upto_region 4 with fail
    generalize w2.alloc (.cells #[.int .i64 room, .slice none 0 0] 41) = W3 at *
    have c1 := B12.out.cell (i := 0) rfl
    have f1 := B12.out.free
    go_wp2_with fail
    refine ⟨_, res_cell1 rfl _ (w.heap.size + 1) _ rfl (Blk.cell (i := 0) (B12.out.set 0 (.bool true)) rfl) Try.underlying4 rfl, rfl, ?_⟩
    exact K2.out.setCell (p := ⟨w.heap.size + 1, 0, none⟩) (.inr (by simp)) (.bool true)
  · clear HP
    have HD2 := hx hd
    have HT := hx (And.intro ht0 ht80)
    have HR := hx (And.intro hr1 hr40)
    have B02 := hx ((hd.qw.kept.blk B01.out (by simp)).alloc (.cells #[.int .i64 room, .slice b n c] 41))
    have B12 := hx ((hd.qw.kept.blk B11.out (by simp)).alloc (.cells #[.int .i64 room, .slice b n c] 41))
    have B82 := hx (Blk.new w2 [.int .i64 room, .slice b n c] 41)
    have HD3 := hx (hd.kept ((Kept.refl [] w2).alloc (.cells #[.int .i64 room, .slice b n c] 41)))
    clear hd ht0 ht80 hr1 hr40 HD2 B01 B11
    go_upto_region 4 with fail
    generalize w2.heap.size = b8 at *
    generalize w2.alloc (.cells #[.int .i64 room, .slice b n c] 41) = w3 at *
    have hnr : (n : Int) ≤ room := HD3.out.hr
    have hn40 : (n : Int) ≤ 40 := by have h := HR.out; omega
    have HPU := hx (pushS_any HD3.out rank 1 (by omega) HT.out.1 (by have h := HT.out; omega))
    have HPG := hx (show (pushS s ⟨rank, T + 1, 1⟩ room).2.2 = decide ((n : Int) = room) by rw [pushS_gone _ _ _ (by rw [HD3.out.hn]; exact hnr), HD3.out.hn])
    have HPT := hx (fun p pre (hp : pre ++ [p] <+: (pushS s ⟨rank, T + 1, 1⟩ room).1.map pr) => show p.1 ≤ max rank ((s.map pr).getD (n - 1) (0, 0)).1 by
      have h := pushS_top HD3.out.rp ⟨rank, T + 1, 1⟩ room p pre hp
      rw [HD3.out.hn] at h
      exact h)
    generalize pushS s ⟨rank, T + 1, 1⟩ room = r at *
    obtain ⟨r1, r2, r3⟩ := r
    have c0 := B02.out.cell (i := 0) rfl
    go_wp2_with fail
    refine HPU.out.mono ?_
    rintro e w4 ⟨rfl, v1, h1, hq1, hrp1, hl1, hw1, hk1, ho1⟩
    have B04 := hx ((B02.out.qs HD3.out.qs hk1 (by decide) (by decide)).alloc (.cells #[.bool r3] 4))
    have B14 := hx ((B12.out.qs HD3.out.qs hk1 (by decide) (by decide)).alloc (.cells #[.bool r3] 4))
    have B84 := hx ((B82.out.qs HD3.out.qs hk1 (by decide) (by decide)).alloc (.cells #[.bool r3] 4))
    have B114 := hx (Blk.new w4 [.bool r3] 4)
    have L4 := hx ((HD3.out.ls.qs HD3.out.qs hk1).kept ((Kept.refl [] w4).alloc (.cells #[.bool r3] 4)))
    have Q4 := hx (hq1.kept ((Kept.refl [] w4).alloc (.cells #[.bool r3] 4)))
    have K4 := hx ((K1.out.trans0 hw1.kept).alloc (.cells #[.bool r3] 4))
    have HRP := hx hrp1
    have HLR := hx hl1
    have HN := hx HD3.out.hn
    clear hq1 hrp1 hl1 hw1 hk1 ho1 B02 B12 B82 HD3 HPU c0 K1
    simp only at HPG HPT HLR HRP
    go_upto_region 7 with fail
    generalize w4.heap.size = b11 at *
    generalize w4.alloc (.cells #[.bool r3] 4) = w5 at *
    have c11 := B114.out.cell (i := 0) rfl
    have c81 := B84.out.cell (i := 1) rfl
    have HLN := hx (len_any q v1 room (T + 1) h1 w5 Q4.out)
    have hle : (h1.length : Int) ≤ room := by have h2 := HRP.out.len; have h3 := HLR.out; omega
    have hnd : decide (room < (h1.length : Int)) = false := decide_eq_false (by omega)
    go_cut [49] from 37 to 50 (fun s49 wx => s49 = .bool false ∧ wx = w5)
    case first =>
      by_cases hg : (n : Int) = room
      · obtain rfl : r3 = true := by rw [HPG.out]; exact decide_eq_true hg
        go_wp2_with fail
        refine HLN.out.mono ?_
        rintro e w6 ⟨rfl, rfl⟩
        go_wp2_with fail
        go_meet
        exact ⟨rfl, rfl⟩
      · obtain rfl : r3 = false := by rw [HPG.out]; exact decide_eq_false hg
        go_wp2_with fail
        refine HLN.out.mono ?_
        rintro e w6 ⟨rfl, rfl⟩
        go_wp2_with fail
        go_meet
        exact ⟨rfl, rfl⟩
    case rest =>
      obtain ⟨rfl, rfl⟩ := hcut
      clear HLN hle hnd c11 c81
      have hbn := func_ne wc.heap.size
      have hzi := zeroInt
      go_wp2_with fail
      refine (all_any q wc).mono ?_
      rintro e w6 ⟨rfl, rfl⟩
      have BQ := hx (Blk.new wc [.pointer (some ⟨q, 0, none⟩)] 24)
      have K6 := hx ((Kept.refl [] wc).alloc (.cells #[.pointer (some ⟨q, 0, none⟩)] 24))
      go_upto_region 12 with fail
      clear hbn
      generalize wc.heap.size = bq at *
      generalize wc.alloc (.cells #[.pointer (some ⟨q, 0, none⟩)] 24) = w6 at *
      have B13 := hx (Blk.new w6 [.int .i64 0] 3)
      have BQ7 := hx (BQ.out.alloc (.cells #[.int .i64 0] 3))
      have K7 := hx (K6.out.alloc (.cells #[.int .i64 0] 3))
      have HSZ := hx K6.out.size
      go_wp2_with fail
      clear hzi
      generalize w6.heap.size = b13 at *
      generalize w6.alloc (.cells #[.int .i64 0] 3) = w7 at *
      have HST := hx (all_stops 5 bq q v1 room (T + 1) (T + 1) h1 r1 [b13] w7 (BQ7.out.cell rfl) (Q4.out.kept K7.out) HRP.out (by
        intro b hb
        simp only [List.mem_cons, List.not_mem_nil, or_false] at hb
        subst hb
        exact B13.out.lt) (by have h1 := HRP.out.len; have h2 := HLR.out; have h3 := HR.out; omega) (by omega))
      have HLT := hx (And.intro B13.out.lt K7.out.size)
      refine (wpIn_wide (n := 6)).1 ?_
      apply rangeX (F := Fence.wide) (n := 6) (gf := 22) (lb := #[.pointer (some ⟨bq, 0, none⟩)]) (encs := encA) (Kp := KpC [b13]) (S := fun xs => xs = r1.map pr) (Sp := fun pre => pre <+: r1.map pr) (N := r1.length) rfl (by omega) rfl trivial (enters_of Try.func22 (by kernel_rfl) rfl) HST.out kpc_t (fun W l o o' _ h hc => kpc_b W l o o' h hc) (fun _ => rfl)
        (fun pre W => Blk W b13 [.int .i64 (pre.length : Int)] 3 ∧ Kept [] wc W)
        (fun cd pre _ => cd = .ret ∧ ¬ (pre <+: r1.map pr))
        (fun pre A C ⟨h1, h2⟩ hb => ⟨h1.below hb HLT.out.1, h2.below hb HLT.out.2⟩)
        (fun _ _ _ _ h _ => h)
        ⟨B13.out, K7.out⟩
      case hassign =>
        intro l x W K hK
        gi_wp2
        exact hK
      case hbody =>
        rintro l pre x W ⟨hb13, hk⟩ hlen
        have c13 := hb13.cell (i := 0) rfl
        have f13 := hb13.free
        have c11 := (hk.blk B114.out (by simp)).cell (i := 0) rfl
        have c5 := (hk.blk B04.out (by simp)).cell (i := 0) rfl
        have c81 := (hk.blk B84.out (by simp)).cell (i := 1) rfl
        have c6 := (hk.blk B14.out (by simp)).cell (i := 0) rfl
        have f6 := (hk.blk B14.out (by simp)).free
        have hl100 : pre.length ≤ 100 := by have h2 := HLR.out; have h3 := HR.out; omega
        have hln : (((pre ++ [x]).length : Nat) : Int) = (pre.length : Int) + 1 := by simp
        have HLN := hx hln
        have HB := hx (And.intro hb13 hk)
        clear hln hlen hb13
        obtain ⟨x1, x2⟩ := x
        cases r3
        · gi_wp2
          refine wpIn_region_quietR (by kernel_rfl) (by kernel_rfl) (by kernel_rfl) ?_
          repeat (quiet_step_in (fail))
          refine wpQuietIn_nil ?_
          intro _ hw'
          obtain ⟨nq, hw''⟩ := hw'
          subst hw''
          gi_wp2
          refine ⟨(show KeepsOthers W (W.drewN nq) from ⟨Nat.le_refl _, fun _ _ h _ => h⟩).trans (KeepsOthers.setCell _ _ _), ⟨by simp [World.setCell], fun b o ho hc hn => Below.heap_setCell _ _ _ _ (by simp at hn; exact hn)⟩, ?_, ?_⟩
          · rw [HLN.out]; exact HB.out.1.set 0 _
          · exact HB.out.2.drewN nq |>.setCell (p := ⟨b13, 0, none⟩) (.inr HSZ.out) _
        · have hn1 : 1 ≤ n := by
            have hrn : (n : Int) = room := by have h := HPG.out; simpa using h
            have h := HR.out
            omega
          obtain ⟨m, rfl⟩ : ∃ m, n = m + 1 := ⟨n - 1, by omega⟩
          obtain ⟨g, off, hb, e1, _⟩ := (L4.out.kept HB.out.2).1 m (by rw [List.length_map, HN.out]; omega)
          subst hb
          replace HPT := hx (HPT.out (x1, x2) pre)
          simp only [Nat.add_sub_cancel] at HPT
          generalize ((s.map pr).getD m (0, 0)).1 = y1 at *
          have jw : IntKind.i64.wrap ((m : Int) + 1 - 1) = (m : Int) := by rw [IntKind.wrap_i64]; omega
          have jw2 : IntKind.i64.wrap (m : Int) = (m : Int) := by rw [IntKind.wrap_i64]; omega
          have jl : (m : Int) < (m : Int) + 1 := by omega
          by_cases hgt : max rank y1 < x1
          · have HPF := hx (show ¬ (pre ++ [(x1, x2)] <+: r1.map pr) from fun hp => by have h := HPT.out hp; omega)
            have hgd : decide (max rank y1 < x1) = true := decide_eq_true hgt
            clear HPT HPG
            gi_wp2
            refine wpIn_region_quietR (by kernel_rfl) (by kernel_rfl) (by kernel_rfl) ?_
            repeat (quiet_step_in (fail))
            refine wpQuietIn_nil ?_
            intro _ hw'
            obtain ⟨nq, hw''⟩ := hw'
            subst hw''
            gi_wp2
            all_goals exact ⟨(show KeepsOthers W (W.drewN nq) from ⟨Nat.le_refl _, fun _ _ h _ => h⟩).trans (KeepsOthers.setCell _ _ _), rfl, HPF.out⟩
          · have hgd : decide (max rank y1 < x1) = false := decide_eq_false hgt
            clear HPT HPG
            gi_wp2
            refine wpIn_region_quietR (by kernel_rfl) (by kernel_rfl) (by kernel_rfl) ?_
            repeat (quiet_step_in (fail))
            refine wpQuietIn_nil ?_
            intro _ hw'
            obtain ⟨nq, hw''⟩ := hw'
            subst hw''
            gi_wp2
            all_goals refine ⟨(show KeepsOthers W (W.drewN nq) from ⟨Nat.le_refl _, fun _ _ h _ => h⟩).trans (KeepsOthers.setCell _ _ _), ⟨by simp [World.setCell], fun b o ho hc hn => Below.heap_setCell _ _ _ _ (by simp at hn; exact hn)⟩, ?_, ?_⟩
            all_goals first | (rw [HLN.out]; exact HB.out.1.set 0 _) | exact HB.out.2.drewN nq |>.setCell (p := ⟨b13, 0, none⟩) (.inr HSZ.out) _
      case hdone =>
        rintro D xs W hD rfl ⟨hb13, hk⟩ hK
        have hml : (((r1.map pr).length : Nat) : Int) = (h1.length : Int) := by have h1 := HRP.out.len; simp; omega
        rw [hml] at hb13
        have c13 := hb13.cell (i := 0) rfl
        have f6 := (hk.blk B14.out (by simp)).free
        have c6 := (hk.blk B14.out (by simp)).cell (i := 0) rfl
        have HLQ := hx (fun W1 (h : Kept [] W W1) => len_any q v1 room (T + 1) h1 W1 ((Q4.out.kept hk).kept h))
        have HKD := hx hK
        have HDD := hx hD
        have HKK := hx (K4.out.trans0 hk)
        have HBF := hx (hk.blk B14.out (by simp))
        clear hml hb13 hk hK hD
        go_upto_region 18 with fail
        refine wp_blind ?_
        have HNE := hx (show w.heap.size + 1 ≠ D by have h1 := HDD.out; have h2 := HLT.out; have h3 := B14.out.lt; omega)
        have HFI := hx (show w.heap.size ≤ D by have h1 := HDD.out; have h2 := HLT.out; have h3 := K4.out.size; omega)
        go_region_with (go_at_call 11; refine (HLQ.out _ (Kept.refl [] W).drew).mono ?_; rintro e w2 ⟨rfl, rfl⟩)
        all_goals
          go_wp2_with fail
          have HB1 := hx (show Blk (W.drew.setCell ⟨w.heap.size + 1, 0, none⟩ (.bool true)) (w.heap.size + 1) [.bool true] 4 from HBF.out.drew.set 0 (.bool true))
          have HKK2 := hx (HKK.out.drew.setCell (p := ⟨w.heap.size + 1, 0, none⟩) (.inr (by simp)) (.bool true))
          have HK2 := ((show KeepsOthers W W.drew from ⟨Nat.le_refl _, fun _ _ h _ => h⟩).trans (KeepsOthers.setCell W.drew ⟨w.heap.size + 1, 0, none⟩ (.bool true))).same D _ HKD.out rfl
          refine ⟨by simp, .inl ⟨_, _, rfl, run_takeDeferred HK2, ?_⟩⟩
          refine ⟨_, res_cell1 rfl _ (w.heap.size + 1) _ rfl (Blk.cell (i := 0) (show Blk _ (w.heap.size + 1) [.bool true] 4 from (World.putObj_heap_other HNE.out).trans HB1.out) rfl) Try.underlying4 rfl, rfl, ?_⟩
          exact HKK2.out.below (below_put _ D _ _ (Nat.le_refl D) HK2) HFI.out
      case hstop =>
        rintro D cd pre W _ hp ⟨_, hx⟩ _
        exact absurd hp hx
end Go.Proofs.Ythpdoekeooedfaa
