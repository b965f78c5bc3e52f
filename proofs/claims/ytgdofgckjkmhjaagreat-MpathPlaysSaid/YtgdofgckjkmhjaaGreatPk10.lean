/- By which ways one goes. A sender's New, Waiting, Heard. What a push leaves, in plain terms. The sender's Push. Printed by k/gen_mpp.py. Rows of datagrams that went; the size of one. The sender's Tick. Printed by k/gen_mpk.py. -/
import Derived.Test.YtgdofgckjkmhjaaGreatPk09
import Derived.Deep.CutBlock
set_option linter.unusedSimpArgs false
set_option linter.unusedVariables false
namespace Go.Proofs.YtgdofgckjkmhjaaGreat.Mp
open Go Go.RowKit
/-- Does it go by all ways? -/
def manyB (m : Ms) (f : Nat) (rank : Int) : Bool := decide (rank ≤ 0) || (decide (rank = 1) && (decide (6553 ≤ (m.way f).s.loss) || decide (stateI (m.way f).quiet ≠ 0)))
/-- The ways. -/
def choM (m : Ms) (rank : Int) : List Nat :=
  if keyI m.p1 < keyI m.p0 then (if manyB m 1 rank && (decide (stateI m.p0.quiet ≠ 2) || decide (stateI m.p1.quiet = 2)) then [1, 0] else [1])
  else (if manyB m 0 rank && (decide (stateI m.p1.quiet ≠ 2) || decide (stateI m.p0.quiet = 2)) then [0, 1] else [0])
/-- A list of small numbers, as it lies. -/
structure IntsAt (w : World) (v : Value) (l : List Nat) : Prop where
  at_ : ∃ g c xs, v = .slice (some ⟨g, 0, none⟩) l.length c ∧ l.length ≤ c ∧ c ≤ maxLen ∧ Blk w g xs 3 ∧ ∀ j, j < l.length → xs[j]? = some (.int .i64 ((l.getD j 0 : Nat) : Int))
theorem IntsAt.kept {w w' : World} {v : Value} {l : List Nat} (h : IntsAt w v l) (hk : Kept [] w w') : IntsAt w' v l := by
  obtain ⟨g, c, xs, h1, h2, h3, h4, h5⟩ := h.at_
  exact ⟨g, c, xs, h1, h2, h3, hk.blk h4 (by simp), h5⟩
theorem ordM_two (m : Ms) : ∃ f g, ordM m = [f, g] ∧ f < 2 ∧ g < 2 ∧ f ≠ g ∧ ∀ rank, choM m rank = if manyB m f rank && (decide (stateI (m.way g).quiet ≠ 2) || decide (stateI (m.way f).quiet = 2)) then [f, g] else [f] := by
  unfold ordM choM
  split
  · exact ⟨1, 0, rfl, by omega, by omega, by omega, fun _ => rfl⟩
  · exact ⟨0, 1, rfl, by omega, by omega, by omega, fun _ => rfl⟩
theorem wpList_grow1 {P : Program} {w : World} {ops : Array Oper} {rest : List Oper} {o : Oper} {a : Act} {Q : Exit → Act → World → Prop} (hgd : o.guard = none) (s x : Operand) (t : TypeId)
    (ho : o.op = .call { callee := .builtin .append, args := #[s, x], argTypes := #[t, t] })
    (e : TypeId) (z : Value) (size bytes : Nat) (hinfo : (P.info? e).map (fun i => (i.zero, i.size, i.bytes)) = some (some z, size, bytes)) (ht : P.underlying t = some (.slice e))
    (hzs : z.cells.size = size) (hsz : 0 < size)
    (b : Addr) (n : Nat) (olds : List Value) (hs : a.eval s = .slice (some b) n n) (hlo : olds.length = n * size) (holds : ∀ j u, olds[j]? = some u → w.cell? (b.add j) = some u)
    (ad : Addr) (c : Nat) (news : List Value) (hx : a.eval x = .slice (some ad) 1 c) (hn : news.length = 1 * size) (hc : ∀ j u, news[j]? = some u → w.cell? (ad.add j) = some u)
    (b1 : n + 1 ≤ maxLen) (b2 : (n + 1) * bytes ≤ 140737488355328)
    (h : ∀ v' w', w'.ownsRow w.heap.size e size v' (n + 1) (olds ++ news) → w.grownBy w' none → wpList P ops Q rest (a.put o.dst v') w') : wpList P ops Q (o :: rest) a w := by
  refine wpList_plain hgd fun K hK => ?_
  obtain ⟨i, hi, hz0, hz1, hz2⟩ := info_parts hinfo
  obtain ⟨v', w', hrun, r1, r2⟩ := run_append_arg_grows (P := P) w t o.type e i z size bytes ht hi hz0 hz1 hz2 hzs hsz b n n olds hlo holds ad 1 c news hn hc (by omega) b1 b2
  unfold Oper.wp execOp
  simp only [ho, resolve, invoke, builtin, Sem.run_bind, Sem.run_pure, Result.andThen_ok, List.map_toArray, List.map_cons, List.map_nil, hs, hx, hrun]
  exact hK _ _ (h v' w' r1 r2)
theorem own_ints {w : World} {base n : Nat} {v : Value} {l : List Nat} (h : w.ownsRow base 3 1 v n (ints l)) (h0 : 0 < n) : IntsAt w v l := by
  have hl := own_len h
  rcases h.2 with ⟨_, hn⟩ | ⟨g, cap, cur, rfl, _, hg, hn, hc, hs, ht⟩
  · omega
  · subst hl
    refine ⟨g, cap, cur.toList, rfl, hn, hc, hg, fun j hj => ?_⟩
    have h2 : (cur.toList.take (l.length * 1))[j]? = (ints l)[j]? := by rw [ht]
    rw [List.getElem?_take_of_lt (by omega), ints_get l j hj] at h2
    exact h2
def ChoP (w : World) (l : List Nat) (e : Ending) (w' : World) : Prop := ∃ u, e = .returned u ∧ IntsAt w' u l ∧ Kept [] w w' ∧ ∀ g, u.ownBlock = some g → w.heap.size ≤ g
set_option maxRecDepth 100000 in
set_option maxHeartbeats 6400000 in
theorem choose_m (s b q : Nat) (v : Value) (m : Ms) (k t rank : Int) (w : World) (r : Sr w s b q v m) (o : Ok m k t) (hk : 65 * k ≤ 1000000) :
    Calls Tryz.prog 19 #[.pointer (some ⟨s, 0, none⟩), .int .i64 rank] w (ChoP w (choM m rank)) := by
  have HO := hx (order_m s b q v m k t w r o hk)
  obtain ⟨f, g2, hord, hf, hg2, hfg, hcho⟩ := ordM_two m
  rw [hord] at HO
  have HR := hx r
  have HST := hx (fun (i : Nat) (hi : i < 2) (W : World) (hk2 : Kept [] w W) => state_any s (i * 15) (sdc m b q) 74 (m.way i) W (r.kept hk2).hs (part_way m b q hi))
  have HCH := hx (hcho rank)
  have hff : (f : Int) < 2 := by omega
  have hgg : (g2 : Int) < 2 := by omega
  have HF := hx (And.intro hf (And.intro hg2 hfg))
  have hls : ∀ W, Kept [] w W → W.cell? ⟨s, f * 15, none⟩ = some (.int .i64 (m.way f).s.loss) := fun W hk2 => by
    have h := (r.kept hk2).hs.part (part_way m b q hf) 0 (.int .i64 (m.way f).s.loss) rfl
    exact h
  have HLS := hx hls
  clear r o hord hf hg2 hfg hcho hls
  go_enter Tryz.func19, Tryz.ntmps19
  go_upto_region 2 with (go_at_call 47; refine HO.out.mono ?_; rintro e w1 ⟨u, rfl, ho, hk1⟩; have HOW := hx ho; have K1 := hx hk1; clear ho hk1)
  obtain ⟨g, c, xs, hu, hgc, hcm, hbx, hcl⟩ := (own_ints HOW.out (by omega)).at_
  have hu2 : u = .slice (some ⟨g, 0, none⟩) 2 c := hu
  subst hu2
  clear hu
  have e0 : w1.cell? ⟨g, 0, none⟩ = some (.int .i64 (f : Int)) := hbx.cell (hcl 0 (by simp))
  have e1 : w1.cell? ⟨g, 1, none⟩ = some (.int .i64 (g2 : Int)) := hbx.cell (hcl 1 (by simp))
  have hgc2 : 2 ≤ c := hgc
  have HC := hx (And.intro e0 (And.intro e1 (And.intro hgc2 hcm)))
  have HGF := hx (show w.heap.size ≤ g from (HOW.out.lt g rfl).1)
  have HBX := hx (fun (W : World) (hk3 : Kept [] w1 W) => hk3.blk hbx (by simp))
  have HX0 := hx (show xs[0]? = some (.int .i64 (f : Int)) from hcl 0 (by simp))
  clear hcl hgc HO e1 hgc2 hcm hbx
  go_cut [6] (fun s6 wx => s6 = .pointer (some ⟨s, f * 15, none⟩) ∧ Kept [] w1 wx)
  case first =>
    go_quiet (fail)
    all_goals (go_wp2_with fail)
    all_goals (go_meet; exact ⟨rfl, (Kept.refl _ _).drewN _⟩)
  case rest =>
    obtain ⟨rfl, hk2⟩ := hcut
    have K2 := hx (K1.out.trans0 hk2)
    have HB2 := hx (fun (W : World) (hk3 : Kept [] wc W) => HBX.out W (hk2.trans0 hk3))
    have HC2 := hx (And.intro (kept_cell' hk2 HC.out.1) (And.intro (kept_cell' hk2 HC.out.2.1) HC.out.2.2))
    clear hk2 e0
    have cl := HLS.out wc K2.out
    have hc1 : (1 : Int) ≤ (c : Int) := by have := HC2.out.2.2.1; omega
    have hc2 : (2 : Int) ≤ (c : Int) := by have := HC2.out.2.2.1; omega
    go_upto_region 3 with fail
    go_cut [7] (fun s7 wx => s7 = .bool (manyB m f rank) ∧ wx = wc)
    case first =>
      have HS := hx (HST.out f HF.out.1 wc K2.out)
      obtain ⟨x, hxx⟩ : ∃ x, stateI (m.way f).quiet = x := ⟨_, rfl⟩
      obtain ⟨L, hL⟩ : ∃ L, (m.way f).s.loss = L := ⟨_, rfl⟩
      have HM := hx (show manyB m f rank = (decide (rank ≤ 0) || (decide (rank = 1) && (decide (6553 ≤ L) || decide (x ≠ 0)))) by unfold manyB; rw [hxx, hL])
      rw [hxx] at HS
      rw [hL] at cl
      clear hxx hL HC HC2 HCH
      by_cases h1 : rank ≤ 0
      · have d1 : decide (rank ≤ 0) = true := decide_eq_true h1
        have E := hx (show manyB m f rank = true by rw [HM.out]; simp [h1])
        go_wp2_with (go_at_call 48; refine HS.out.mono ?_; rintro e w1 ⟨rfl, rfl⟩)
        go_meet
        exact ⟨Eq.trans rfl (congrArg Value.bool E.out.symm), rfl⟩
      · have d1 : decide (rank ≤ 0) = false := decide_eq_false h1
        by_cases h2 : rank = 1
        · subst h2
          by_cases h3 : 6553 ≤ L
          · have d3 : decide (6553 ≤ L) = true := decide_eq_true h3
            have E := hx (show manyB m f 1 = true by rw [HM.out]; simp [h3])
            go_wp2_with (go_at_call 48; refine HS.out.mono ?_; rintro e w1 ⟨rfl, rfl⟩)
            go_meet
            exact ⟨Eq.trans rfl (congrArg Value.bool E.out.symm), rfl⟩
          · have d3 : decide (6553 ≤ L) = false := decide_eq_false h3
            by_cases h4 : x = 0
            · subst h4
              have E := hx (show manyB m f 1 = false by rw [HM.out]; simp [h3])
              go_wp2_with (go_at_call 48; refine HS.out.mono ?_; rintro e w1 ⟨rfl, rfl⟩)
              go_meet
              exact ⟨Eq.trans rfl (congrArg Value.bool E.out.symm), rfl⟩
            · have d4 : (x != 0) = true := by simp [bne, h4]
              have E := hx (show manyB m f 1 = true by rw [HM.out]; simp [h4])
              go_wp2_with (go_at_call 48; refine HS.out.mono ?_; rintro e w1 ⟨rfl, rfl⟩)
              go_meet
              exact ⟨Eq.trans rfl (congrArg Value.bool E.out.symm), rfl⟩
        · have d2 : (rank == 1) = false := beq_eq_false_iff_ne.2 h2
          have E := hx (show manyB m f rank = false by rw [HM.out]; simp [h2]; omega)
          go_wp2_with (go_at_call 48; refine HS.out.mono ?_; rintro e w1 ⟨rfl, rfl⟩)
          go_meet
          exact ⟨Eq.trans rfl (congrArg Value.bool E.out.symm), rfl⟩
    case rest =>
      obtain ⟨rfl, rfl⟩ := hcut
      have HCZ := hx HC2.out
      clear cl HLS
      cases hm : manyB m f rank with
      | false =>
        have HFIN := hx (show choM m rank = [f] by rw [HCH.out, hm]; rfl)
        clear hm
        go_wp2_with fail
        go_ret
        rw [HFIN.out]
        exact ⟨_, rfl, ⟨⟨g, c, xs, rfl, (show 1 ≤ c by have := HCZ.out.2.2.1; omega), HCZ.out.2.2.2, HB2.out _ (Kept.refl _ _), fun j hj => by simp at hj; subst hj; exact HX0.out⟩⟩, K2.out, fun g3 hg3 => by have h5 : some g = some g3 := hg3; cases h5; exact HGF.out⟩
      | true =>
        obtain ⟨fv, hfv⟩ : ∃ fv : Nat → Int, fv = fun i => stateI (m.way i).quiet := ⟨_, rfl⟩
        have HS := hx (fun (i : Nat) (W : World) (hi : i < 2) (hk2 : Kept [] w W) => show Calls Tryz.prog 48 #[.pointer (some ⟨s, i * 15, none⟩)] W (fun e w' => e = .returned (.int .i64 (fv i)) ∧ W = w') from by rw [hfv]; exact HST.out i hi W hk2)
        have hx1 : stateI (m.way f).quiet = fv f := by rw [hfv]
        have hx2 : stateI (m.way g2).quiet = fv g2 := by rw [hfv]
        obtain ⟨R, hRR⟩ : ∃ R, (if (true && (decide (fv g2 ≠ 2) || decide (fv f = 2))) = true then [f, g2] else [f]) = R := ⟨_, rfl⟩
        have HFIN := hx (show choM m rank = R by rw [HCH.out, hm, hx1, hx2]; exact hRR)
        have HRR := hx hRR
        clear hm hx1 hx2 HST HCH hRR HC hfv
        go_wp2_with fail
        go_loopw [48, 8] (fun s48 s8 wr => ∃ i : Nat, s48 = .int .i64 (i : Int) ∧ i ≤ 1 ∧ Hx (Kept [] wc wr) ∧ ((i = 0 ∧ s8 = .slice (some ⟨g, 0, none⟩) 1 1) ∨ (i = 1 ∧ IntsAt wr s8 R ∧ ∀ g3, s8.ownBlock = some g3 → w.heap.size ≤ g3))) (fun s48 _ _ => 1 - (intOf s48).toNat)
        case atStart => exact ⟨0, rfl, by omega, hx (Kept.refl _ _), .inl ⟨rfl, rfl⟩⟩
        case round =>
          obtain ⟨i, rfl, hi, HK, hcase⟩ := hrel
          rcases hcase with ⟨rfl, rfl⟩ | ⟨rfl, hints, hfre⟩
          · have e1 := kept_cell' HK.out HCZ.out.2.1
            have hnews := hx (fun (W : World) (hk3 : Kept [] wr W) => show ∀ j u, [Value.int .i64 (f : Int)][j]? = some u → W.cell? ((⟨g, 0, none⟩ : Addr).add j) = some u from fun j u hj => by
              obtain rfl : j = 0 := by have := (List.getElem?_eq_some_iff.1 hj).1; simp at this; exact this
              simp only [List.getElem?_cons_zero, Option.some.injEq] at hj
              subst hj
              rw [Addr.add_mid]
              exact kept_cell' hk3 (kept_cell' HK.out HCZ.out.1))
            have HB := hx (Blk.new wr [.int .i64 (g2 : Int)] 3)
            have HA := hx ((Kept.refl [] wr).alloc (.cells #[.int .i64 (g2 : Int)] 3))
            have GROW := hx (fun (W : World) (v5 : Value) (w5 : World) (hk3 : Kept [] wr W) (ho : w5.ownsRow W.heap.size 3 1 v5 (1 + 1) ([.int .i64 (f : Int)] ++ [.int .i64 (g2 : Int)])) (hg : W.grownBy w5 none) => And.intro (own_ints (l := [f, g2]) ho (by omega)) (And.intro ((HK.out.trans0 hk3).grown hg (fun k hk => by cases hk)) (fun g3 hg3 => Nat.le_trans (Nat.le_trans K2.out.size (Nat.le_trans HK.out.size hk3.size)) (ho.lt g3 hg3).1)))
            have hcc : (1 : Int) ≤ 1 := Int.le_refl _
            clear hi
            by_cases h2 : fv g2 = 2
            · have d2 : (fv g2 != 2) = false := by simp [h2]
              by_cases h1 : fv f = 2
              · have d1 : (fv f == 2) = true := by simp [h1]
                have HE := hx (show R = [f, g2] by rw [← HRR.out]; simp [h1])
                clear h1 h2
                go_wp2_with (first
                  | (go_at_call 48; refine (HS.out _ _ (by first | exact HF.out.1 | exact HF.out.2.1) (K2.out.trans0 HK.out)).mono ?_; rintro e w1 ⟨rfl, rfl⟩)
                  | (refine wpList_grow1 rfl (.tmp 64) (.tmp 66) 81 rfl 3 (.int .i64 0) 1 8 infoInt Tryz.underlying81 rfl (by omega) ⟨g, 0, none⟩ 1 [.int .i64 (f : Int)] rfl rfl (hnews.out _ HA.out) ⟨wr.heap.size, 0, none⟩ 1 [.int .i64 (g2 : Int)] rfl rfl (Qd.newsB HB.out) (by unfold maxLen; omega) (by omega) ?_; intro v5 w5 ho5 hg5; have G5 := hx (GROW.out _ v5 w5 HA.out ho5 hg5); clear ho5 hg5))
                go_roundw
                case rel => exact ⟨1, rfl, by omega, hx G5.out.2.1, .inr ⟨rfl, by rw [HE.out]; exact G5.out.1, G5.out.2.2⟩⟩
                case measure => simp [intOf]
              · have d1 : (fv f == 2) = false := by simp [h1]
                have HE := hx (show R = [f] by rw [← HRR.out]; simp [h1, h2])
                clear h1 h2
                go_wp2_with (go_at_call 48; refine (HS.out _ _ (by first | exact HF.out.1 | exact HF.out.2.1) (K2.out.trans0 HK.out)).mono ?_; rintro e w1 ⟨rfl, rfl⟩)
                go_roundw
                case rel => exact ⟨1, rfl, by omega, HK, .inr ⟨rfl, by rw [HE.out]; exact ⟨⟨g, 1, xs, rfl, Nat.le_refl _, by unfold maxLen; omega, HB2.out _ HK.out, fun j hj => by simp at hj; subst hj; exact HX0.out⟩⟩, fun g3 hg3 => by have h5 : some g = some g3 := hg3; cases h5; exact HGF.out⟩⟩
                case measure => simp [intOf]
            · have d2 : (fv g2 != 2) = true := by simp [bne, h2]
              have HE := hx (show R = [f, g2] by rw [← HRR.out]; simp [h2])
              clear h2
              go_wp2_with (first
                | (go_at_call 48; refine (HS.out _ _ (by first | exact HF.out.1 | exact HF.out.2.1) (K2.out.trans0 HK.out)).mono ?_; rintro e w1 ⟨rfl, rfl⟩)
                | (refine wpList_grow1 rfl (.tmp 64) (.tmp 66) 81 rfl 3 (.int .i64 0) 1 8 infoInt Tryz.underlying81 rfl (by omega) ⟨g, 0, none⟩ 1 [.int .i64 (f : Int)] rfl rfl (hnews.out _ HA.out) ⟨wr.heap.size, 0, none⟩ 1 [.int .i64 (g2 : Int)] rfl rfl (Qd.newsB HB.out) (by unfold maxLen; omega) (by omega) ?_; intro v5 w5 ho5 hg5; have G5 := hx (GROW.out _ v5 w5 HA.out ho5 hg5); clear ho5 hg5))
              go_roundw
              case rel => exact ⟨1, rfl, by omega, hx G5.out.2.1, .inr ⟨rfl, by rw [HE.out]; exact G5.out.1, G5.out.2.2⟩⟩
              case measure => simp [intOf]
          · have HI := hx (And.intro hints hfre)
            clear hints hi hfre
            go_wp2_with fail
            go_ret
            rw [HFIN.out]
            exact ⟨_, rfl, HI.out.1, K2.out.trans0 HK.out, HI.out.2⟩
end Go.Proofs.YtgdofgckjkmhjaaGreat.Mp
namespace Go.Proofs.YtgdofgckjkmhjaaGreat.Mp
open Go Go.RowKit
def ms0 (sess rt : Nat) (burst room : Int) : Ms := ⟨pa0, pa0, rt, burst, burst, 0, 0, room, 0, [], sess, 0, 0, 0⟩
theorem builtSd (b q sess rt : Nat) (burst room : Int) : Tryz.prog.built 74 [(1, .pointer (some ⟨b, 0, none⟩)), (2, .pointer (some ⟨q, 0, none⟩)), (3, .int .u32 (sess : Int))] = some (sdc (ms0 sess rt burst room) b q).toArray := by kernel_rfl
theorem ms0_ok (sess rt : Nat) (burst room : Int) (h1 : 1 ≤ rt ∧ rt ≤ 1048576) (h2 : 1 ≤ burst ∧ burst ≤ 16777216) (h3 : 1 ≤ room ∧ room ≤ 256) (hs : sess < 4294967296) : Ok (ms0 sess rt burst room) 0 0 := by
  have e : (ms0 sess rt burst room).held = burst ∧ (ms0 sess rt burst room).burst = burst ∧ (ms0 sess rt burst room).s = [] ∧ (ms0 sess rt burst room).room = room := ⟨rfl, rfl, rfl, rfl⟩
  refine ⟨pa0_ok, pa0_ok, h1, h2, ?_, by simp [ms0, Fits], by simp [ms0, Fits], h3, by simp [ms0], ?_, hs, by simp [ms0], by simp [ms0], by simp [ms0], fun x hx => by rw [e.2.2.1] at hx; simp at hx⟩
  · rw [e.1, e.2.1]; omega
  · rw [e.2.2.1, e.2.2.2]; simp; omega
/-- A new sender's blocks are new. -/
def NewP (w : World) (sess rt : Nat) (burst room : Int) (e : Ending) (w' : World) : Prop :=
  ∃ s b q, e = .returned (.tuple #[.pointer (some ⟨s, 0, none⟩), .int .i64 0]) ∧ Sr w' s b q (.slice none 0 0) (ms0 sess rt burst room) ∧ Kept [] w w' ∧ w.heap.size ≤ s ∧ w.heap.size ≤ b ∧ w.heap.size ≤ q
set_option maxRecDepth 100000 in
set_option maxHeartbeats 3200000 in
theorem new_m (sess rt : Nat) (burst room : Int) (w : World) (h1 : 1 ≤ rt ∧ rt ≤ 1048576) (h2 : 1 ≤ burst ∧ burst ≤ 16777216) (h3 : 1 ≤ room ∧ room ≤ 256) :
    Calls Tryz.prog 6 #[.int .u32 (sess : Int), .int .i64 (rt : Int), .int .i64 burst, .int .i64 room] w (NewP w sess rt burst room) := by
  have HB := hx (bnew_any (rt : Int) burst w (by omega) h2)
  have HQ := hx (fun W => Qd.new_any room W h3.1 h3.2)
  go_enter Tryz.func6, Tryz.ntmps6
  go_wp2_with (first
    | (go_at_call 13; refine HB.out.mono ?_; rintro e w1 ⟨rfl, hb1, hk1⟩; have B1 := hx hb1; have K1 := hx hk1; clear hb1 hk1)
    | (go_at_call 14; refine (HQ.out _).mono ?_; rintro e w2 ⟨rfl, hb2, hk2⟩; have B2 := hx hb2; have K2 := hx hk2; clear hb2 hk2)
    | (refine wpList_built rfl 74 _ rfl _ [(1, .pointer (some ⟨w.heap.size, 0, none⟩)), (2, .pointer (some ⟨w1.heap.size, 0, none⟩)), (3, .int .u32 (sess : Int))] (by simp only [List.map_toArray, List.map_cons, List.map_nil]; rfl) (builtSd w.heap.size w1.heap.size sess rt burst room) ?_))
  go_ret2
  have hz := K1.out.size
  have hz2 := K2.out.size
  have KA := (Kept.refl [] w2).alloc (.cells (sdc (ms0 sess rt burst room) w.heap.size w1.heap.size).toArray 74)
  refine ⟨w2.heap.size, w.heap.size, w1.heap.size, rfl, ⟨Blk.new _ _ _, KA.blk (K2.out.blk B1.out (by simp)) (by simp), ⟨[], Qd.Qs.new (KA.blk B2.out (by simp)), Qd.Rp.nil⟩, fun x hx => by simp [ms0] at hx⟩, (K1.out.trans0 K2.out).trans0 KA, by omega, Nat.le_refl _, hz⟩
set_option maxHeartbeats 800000 in
theorem waiting_m (s b q : Nat) (v : Value) (m : Ms) (w : World) (r : Sr w s b q v m) :
    Calls Tryz.prog 9 #[.pointer (some ⟨s, 0, none⟩)] w fun e w' => e = .returned (.int .i64 (m.s.length : Int)) ∧ w = w' := by
  have c := r.hs.cell (i := 31) (v := .pointer (some ⟨q, 0, none⟩)) rfl
  obtain ⟨h, hq, hr⟩ := r.hq
  have HL := hx (Qd.len_any q v m.room m.turns h w hq)
  rw [← hr.len] at HL
  clear r hq hr
  go_enter Tryz.func9, Tryz.ntmps9
  go_wp2_with (go_at_call 24; refine HL.out.mono ?_; rintro e w1 ⟨rfl, rfl⟩)
  go_ret
  exact ⟨rfl, rfl⟩
set_option maxRecDepth 100000 in
set_option maxHeartbeats 1600000 in
theorem heard_m (s b q i n : Nat) (v : Value) (m : Ms) (k t : Int) (w : World) (r : Sr w s b q v m) (o : Ok m k t) (hi : i < 2) (hk : 65 * k ≤ 900000) (hk2 : k ≤ 100) (hn : n < 4294967296) :
    Calls Tryz.prog 36 #[.pointer (some ⟨s, 0, none⟩), .int .i64 (i : Int), .int .u32 (n : Int)] w fun e w' => e = .returned (.int .i64 (heardP (m.way i) n).2) ∧ Sr w' s b q v (m.setW i (heardP (m.way i) n).1) ∧ Kept [s] w w' := by
  have HH := hx (heard_any s (i * 15) n (sdc m b q) 74 (m.way i) w r.hs (part_way m b q hi) ((o.way i).s.mono hk) ((o.way i).seen.mono hk2) hn)
  have HR := hx r
  have HI := hx hi
  have h0 : ¬ (i : Int) < 0 := by omega
  have h1 : ¬ (2 : Int) ≤ (i : Int) := by omega
  have h2 : (i : Int) < 2 := by omega
  clear r o hi
  go_enter Tryz.func36, Tryz.ntmps36
  go_wp2_with (go_at_call 64; refine HH.out.mono ?_; rintro e w1 ⟨rfl, hb, hk⟩; have B := hx hb; have K := hx hk; clear hb hk)
  go_ret
  exact ⟨rfl, HR.out.way HI.out _ K.out B.out, K.out⟩
theorem heard_out (s : Nat) (i : Int) (n : Nat) (w : World) (hi : i < 0 ∨ 2 ≤ i) :
    Calls Tryz.prog 36 #[.pointer (some ⟨s, 0, none⟩), .int .i64 i, .int .u32 (n : Int)] w fun e w' => e = .returned (.int .i64 62) ∧ w = w' := by
  rcases hi with h | h
  · go_enter Tryz.func36, Tryz.ntmps36
    go_wp2
    go_ret
    exact ⟨rfl, rfl⟩
  · have h0 : ¬ i < 0 := by omega
    go_enter Tryz.func36, Tryz.ntmps36
    go_wp2
    go_ret
    exact ⟨rfl, rfl⟩
end Go.Proofs.YtgdofgckjkmhjaaGreat.Mp
namespace Go.Proofs.YtgdofgckjkmhjaaGreat.Mp
open Go Go.RowKit
open Qd (dvl dv0 dvl_one infoDg step_of)
/-- What waits when one more has come. -/
def pushS (room : Int) (s : List Qd.It) (x : Qd.It) : List Qd.It := if room < ((Qd.insS s x).length : Int) then (Qd.insS s x).dropLast else Qd.insS s x
theorem pushS_mem {room : Int} {s : List Qd.It} {x y : Qd.It} (h : y ∈ pushS room s x) : y = x ∨ y ∈ s := by
  have h1 : y ∈ Qd.insS s x := by
    unfold pushS at h
    split at h
    · exact (List.dropLast_sublist _).subset h
    · exact h
  have h2 := (Qd.ins_perm s x).mem_iff.1 h1
  simpa using h2
def goneB (room : Int) (s : List Qd.It) : Bool := decide (room < ((s.length + 1 : Nat) : Int))
theorem pushS_len {room : Int} {s : List Qd.It} {x : Qd.It} (h : (s.length : Int) ≤ room) : ((pushS room s x).length : Int) ≤ room := by
  unfold pushS
  have hl := Qd.ins_len s x
  split
  · rw [List.length_dropLast]; omega
  · omega
/-- The queue's Push, by what waits. -/
def QPush (W : World) (q : Nat) (v : Value) (room turns : Int) (s : List Qd.It) (it : Qd.It) (e : Ending) (w' : World) : Prop :=
  ∃ y v2, e = .returned (.tuple #[.agg (dvl y).toArray, .bool (goneB room s)]) ∧ (∃ h2, Qd.Qs w' q v2 room turns h2 ∧ Qd.Rp h2 turns (pushS room s it)) ∧ Kept (q :: v.ownBlock.toList) W w' ∧ (v2.ownBlock = v.ownBlock ∨ ∃ g, v2.ownBlock = some g ∧ W.heap.size ≤ g)
theorem qpush (q : Nat) (v : Value) (room turns rank : Int) (x : Qd.Dv) (h s : List Qd.It) (W : World) (qs : Qd.Qs W q v room turns h) (rp : Qd.Rp h turns s) (hb : s.length ≤ 100000) (ht0 : 0 ≤ turns) (ht1 : turns ≤ 1000000) :
    Calls Tryz.prog 16 #[.pointer (some ⟨q, 0, none⟩), .int .i64 rank, .agg (dvl x).toArray] W (QPush W q v room (turns + 1) s ⟨rank, turns + 1, x⟩) := by
  have hl := rp.len
  refine (Qd.push_any q v room turns rank x h W qs (by omega) ht0 ht1).mono ?_
  rintro e w' ⟨v2, hc, hk, hv⟩
  have ha := rp.add rank x
  have hal := Qd.add_len h ⟨rank, turns + 1, x⟩
  have hil := Qd.ins_len s ⟨rank, turns + 1, x⟩
  have hg : goneB room s = decide (room < ((Qd.addL h ⟨rank, turns + 1, x⟩).length : Int)) := by unfold goneB; rw [hal, hl]
  by_cases hr : room < ((Qd.addL h ⟨rank, turns + 1, x⟩).length : Int)
  · rw [if_pos hr] at hc
    obtain ⟨he, hq⟩ := hc
    obtain ⟨hs, _, hd⟩ := ha.drop (by omega)
    refine ⟨_, v2, by rw [he, hg, decide_eq_true hr], ⟨_, hq, ?_⟩, hk, hv⟩
    unfold pushS
    rw [if_pos (by omega)]
    exact hd
  · rw [if_neg hr] at hc
    obtain ⟨he, hq⟩ := hc
    refine ⟨_, v2, by rw [he, hg, decide_eq_false hr], ⟨_, hq, ?_⟩, hk, hv⟩
    unfold pushS
    rw [if_neg (by omega)]
    exact ha
/-- The sender when one has come. -/
def pushM (m : Ms) (rank : Int) (x : Qd.Dv) : Ms := { m with turns := m.turns + 1, s := pushS m.room m.s ⟨rank, m.turns + 1, x⟩ }
theorem Sr.pushed {w w' : World} {s b q : Nat} {v v2 : Value} {m : Ms} {rank : Int} {x : Qd.Dv} (r : Sr w s b q v m) (hx : Bd w (own s b q v) x)
    (hq : ∃ h2, Qd.Qs w' q v2 m.room (m.turns + 1) h2 ∧ Qd.Rp h2 (m.turns + 1) (pushS m.room m.s ⟨rank, m.turns + 1, x⟩)) (hk : Kept (q :: v.ownBlock.toList) w w') (hv : v2.ownBlock = v.ownBlock ∨ ∃ g, v2.ownBlock = some g ∧ w.heap.size ≤ g) :
    Sr w' s b q v2 (pushM m rank x) ∧ ∀ y, y ∈ (pushM m rank x).s → ∀ g o, y.v.p = some (⟨g, o, none⟩ : Addr) → y.v.d.data ≠ [] → g < w.heap.size := by
  have n := r.ne
  have hsub : ∀ g, g ∈ q :: v.ownBlock.toList → g ∈ own s b q v ∨ w.heap.size ≤ g := fun g hg => .inl (by simp only [own, List.mem_cons] at *; exact .inr (.inr hg))
  have hbad : ∀ g, g ∈ own s b q v2 → g ∈ own s b q v ∨ w.heap.size ≤ g := fun g hg => by
    simp only [own, List.mem_cons, Option.mem_toList] at hg ⊢
    rcases hg with h | h | h | h
    · exact .inl (.inl h)
    · exact .inl (.inr (.inl h))
    · exact .inl (.inr (.inr (.inl h)))
    · rcases hv with e | ⟨g', e, hs⟩
      · rw [e] at h; exact .inl (.inr (.inr (.inr h)))
      · rw [e] at h
        simp only [Option.some.injEq] at h
        exact .inr (by omega)
  have hd : ∀ y, y ∈ (pushM m rank x).s → Bd w (own s b q v) y.v := fun y hy => by
    rcases pushS_mem hy with rfl | h
    · exact hx
    · exact r.dat y h
  refine ⟨⟨hk.blk r.hs (fun h => ?_), hk.blk r.hb (fun h => ?_), hq, fun y hy => (hd y hy).next hk hsub hbad⟩, fun y hy g o hp hdd => (hd y hy).lt hp hdd⟩
  · simp only [List.mem_cons, Option.mem_toList] at h
    rcases h with h | h
    · exact n.sq h
    · exact n.vs h
  · simp only [List.mem_cons, Option.mem_toList] at h
    rcases h with h | h
    · exact n.bq h
    · exact n.vb h
theorem chk_form {d : Dg} (h : chk d = 0) : (1 ≤ d.kind ∧ d.kind ≤ 8) ∧ (0 ≤ d.path ∧ d.path < 2) ∧ formP d := by
  unfold chk at h
  split at h
  · omega
  · split at h
    · omega
    · rename_i h1 h2
      refine ⟨by omega, by omega, ?_⟩
      have h3 : formB d = true := by
        cases hf : formB d with
        | true => rfl
        | false => exact absurd (.inr (.inr hf)) h2
      exact of_decide_eq_true h3
theorem chk_len {d : Dg} (h : chk d = 0) : d.data.length ≤ 1200 := by
  obtain ⟨_, _, h3⟩ := chk_form h
  unfold formP shardP missP at h3
  split at h3
  · omega
  · obtain ⟨_, h4⟩ := h3
    (repeat' split at h4) <;> omega
theorem step_allocD {w : World} {ops : Array Oper} {o : Oper} {a : Act} {K : Act → World → Prop} {Q : Exit → Act → World → Prop} {E : Prop} (hgd : o.guard = none) (ho : o.op = .alloc 50)
    (hK : ∀ W', Blk W' w.heap.size (dvl dv0) 50 → Kept [] w W' → K (a.put o.dst (.pointer (some ⟨w.heap.size, 0, none⟩))) W') : if Region.wanted o (yielded ops a.tmps) = true then o.wp Tryz.prog a w K Q else E := by
  refine step_of hgd ?_
  have h := hK _ (Blk.new w (dvl dv0) _) ((Kept.refl _ _).alloc _)
  unfold Oper.wp execOp
  rw [ho]
  go_simp
  exact h
end Go.Proofs.YtgdofgckjkmhjaaGreat.Mp
namespace Go.Proofs.YtgdofgckjkmhjaaGreat.Mp
open Go Go.RowKit
open Qd (dvl dv0 dvl_one infoDg step_of take_by)
/-- A datagram that is to go: its session, no way yet. -/
def pushD (m : Ms) (d : Dg) : Dg := { d with sess := m.sess, path := 0 }
/-- What a push leaves. -/
def PushQ (w : World) (s b q : Nat) (v : Value) (m : Ms) (rank : Int) (d : Dg) (e : Ending) (w' : World) : Prop :=
  e = .returned (.int .i64 (chk (pushD m d))) ∧ ∃ v2 m2, Sr w' s b q v2 m2 ∧ Kept (own s b q v) w w' ∧ (v2.ownBlock = v.ownBlock ∨ ∃ g, v2.ownBlock = some g ∧ w.heap.size ≤ g) ∧
    (if chk (pushD m d) = 0 then ∃ x, x.d = pushD m d ∧ m2 = { pushM m rank x with drop := if goneB m.room m.s then m.drop + 1 else m.drop } else v2 = v ∧ m2 = m)
set_option linter.unusedSimpArgs false in
set_option maxRecDepth 100000 in
set_option maxHeartbeats 12800000 in
theorem push_m (s b q : Nat) (v : Value) (m : Ms) (k t rank : Int) (d : Dg) (p : Option Addr) (n c : Nat) (w : World) (r : Sr w s b q v m) (o : Ok m k t) (hk : k ≤ 1000000) (hd : Bts w p n c d.data) :
    Calls Tryz.prog 7 #[.pointer (some ⟨s, 0, none⟩), .int .i64 rank, .agg (dgl d p c).toArray] w (PushQ w s b q v m rank d) := by
  obtain rfl := hd.hlen
  have HR := hx r
  have HD := hx hd
  have hsl := r.hs.lt
  have HO := hx (show m.s.length ≤ 256 ∧ 0 ≤ m.turns ∧ m.turns ≤ 1000000 ∧ m.sess < 4294967296 ∧ 0 ≤ m.drop ∧ m.drop ≤ 1000000 from ⟨by have := o.len; have := o.room; omega, o.turns.1, by have := o.turns; omega, o.sess, o.drop.1, by have := o.drop; omega⟩)
  clear r o hd
  go_enter Tryz.func7, Tryz.ntmps7
  go_upto_region 1 with fail
  generalize hw1 : World.alloc w _ = w1
  have hk1 : Kept [] w w1 := by rw [← hw1]; exact (Kept.refl _ _).alloc _
  have HB5 := hx (show Blk w1 w.heap.size (dgl d p c) 50 by rw [← hw1]; exact Blk.new w (dgl d p c) _)
  clear hw1
  have R1 := hx (HR.out.kept hk1)
  have K1 := hx hk1
  clear hk1
  have cs := R1.out.hs.cell (i := 32) (v := .int .u32 m.sess) rfl
  have c1 := HB5.out.cell (i := 1) (v := .int .u32 d.sess) rfl
  have c3 := HB5.out.cell (i := 3) (v := .int .i64 d.path) rfl
  have ff := HB5.out.free
  go_upto_region 2 with fail
  generalize hw2 : World.setCell (World.setCell w1 _ _) _ _ = w2
  have HB2 := hx (show Blk w2 w.heap.size (dgl (pushD m d) p c) 50 by rw [← hw2]; exact (HB5.out.set 1 _).set 3 _)
  have K2 := hx (show Kept [] w w2 by rw [← hw2]; exact (K1.out.setCell (.inr (Nat.le_refl _)) _).setCell (.inr (Nat.le_refl _)) _)
  clear hw2 cs c1 c3 ff HB5 K1 R1
  have HCK := hx (fun W (hk : Kept [] w W) => check_any (pushD m d) p d.data.length c W (HD.out.kept hk))
  by_cases hc : chk (pushD m d) = 0
  · rw [hc] at HCK
    have HC := hx hc
    clear hc
    go_upto_region 5 with (first
      | (refine load_blk rfl 50 (.tmp 5) rfl w.heap.size rfl 50 _ _ HB2.out Tryz.underlying50 rfl infoDg ?_)
      | (go_at_call 15; refine (HCK.out _ K2.out).mono ?_; rintro e w4 ⟨rfl, hk4⟩; have K4 := hx (K2.out.trans0 hk4); have HB4 := hx (hk4.blk HB2.out (by simp)); clear hk4))
    have HDL := hx (show 0 + d.data.length ≤ 140737488355328 by have h1 : d.data.length ≤ 1200 := chk_len (d := pushD m d) HC.out; omega)
    have KE := hx ((Kept.refl [] w4).alloc (.cells #[] 5))
    have c10 := (KE.out.blk HB4.out (by simp)).cell (i := 10) (v := .slice p d.data.length c) rfl
    go_upto_region 6 with (refine wpList_app8 rfl (.tmp 21) (.tmp 23) rfl w4.heap.size (.slice (some ⟨w4.heap.size, 0, none⟩) 0 0) 0 [] rfl (own_empty rfl (Nat.le_refl _)) p d.data.length c d.data rfl ((HD.out.kept K4.out).kept KE.out) HDL.out (Nat.le_of_lt (by simp)) ?_; intro v6 w6 ho6 hg6; rw [List.nil_append, Nat.zero_add] at ho6; obtain ⟨a2, cap2, hv6, hbts0⟩ := Bts.own ho6; subst hv6; have HBT := hx hbts0; have KG := hx (KE.out.grown hg6 (fun k hk => by simp [Value.ownBlock] at hk; subst hk; exact .inr (Nat.le_refl _))); have HB6 := hx (KG.out.blk HB4.out (by simp)); have z6 := HB6.out.cell (i := 10) (v := .slice p d.data.length c) rfl; have f6 := HB6.out.free 10; have HO6 := hx ho6; clear ho6 hg6 c10 hbts0)
    have hbts := HBT.out
    generalize hw3 : World.setCell w6 _ _ = w3
    obtain ⟨x2, hx2⟩ : ∃ x2 : Qd.Dv, x2 = ⟨pushD m d, a2, cap2⟩ := ⟨_, rfl⟩
    have HX := hx hx2
    have HB3 := hx (show Blk w3 w.heap.size (dvl x2) 50 by rw [← hw3, hx2]; exact HB6.out.set 10 _)
    have K3 := hx (show Kept [] w w3 by rw [← hw3]; exact (K4.out.trans0 KG.out).setCell (.inr (Nat.le_refl _)) _)
    have hsz4 := K4.out.size
    have hbl := HB4.out.lt
    have hbd : Bd w3 (own s b q v) x2 := by
      have hk6 : Kept [w.heap.size] w6 w3 := by rw [← hw3]; exact (Kept.refl _ _).setCell (.inl (by simp)) _
      have hne : ∀ g o, a2 = some (⟨g, o, none⟩ : Addr) → w4.heap.size ≤ g := fun g o hg => by
        have h := (HO6.out.lt g (by subst hg; rfl)).1
        exact h
      rw [hx2]
      refine ⟨Bts.but hbts hk6 (fun g o hg _ hm => ?_), fun g o hg _ hm => ?_⟩
      · have := hne g o hg
        simp only [List.mem_cons, List.not_mem_nil, or_false] at hm
        omega
      · have := hne g o hg
        have := HR.out.own_lt g hm
        omega
    have HBX := hx hbd
    have R3 := hx (HR.out.kept K3.out)
    obtain ⟨hh, hqs, hrp⟩ := R3.out.hq
    have HP := hx (fun (W : World) (hk : Kept [] w3 W) => qpush q v m.room m.turns rank x2 hh m.s W (qs_kept hqs hk (by simp) (by simp)) hrp (by have := HO.out.1; omega) HO.out.2.1 HO.out.2.2.1)
    have HSK := hx (fun (W : World) (hk : Kept (q :: v.ownBlock.toList) w3 W) => show (fun w3 => w3.cell? ⟨s, 31, none⟩ = some (.pointer (some ⟨q, 0, none⟩)) ∧ w3.rangeAt w.heap.size 0 (dvl x2)) W from ⟨(hk.blk R3.out.hs (fun h => by
        have n := HR.out.ne
        simp only [List.mem_cons, Option.mem_toList] at h
        rcases h with h | h
        · exact n.sq h
        · exact n.vs h)).cell (i := 31) rfl, (hk.blk HB3.out (fun h => by
        have h2 := HR.out.own_lt w.heap.size (by simp only [own, List.mem_cons] at *; exact .inr (.inr h))
        omega)).range⟩)
    have HFX := hx (show x2.d = pushD m d by rw [hx2])
    clear hx2 HX hbd hqs hrp hbts HBT HO6 hw3 z6 f6 KG HB6 KE HB4 K4 hsz4 hbl HB2 K2 HCK HDL
    go_cut [9] (fun s9 wx => s9 = .bool (goneB m.room m.s) ∧ ∃ v2, Sr wx s b q v2 (pushM m rank x2) ∧ Kept (q :: v.ownBlock.toList) w3 wx ∧ (v2.ownBlock = v.ownBlock ∨ ∃ g, v2.ownBlock = some g ∧ w3.heap.size ≤ g))
    case first =>
      refine wp_region_held_drew (S := (fun w3 => w3.cell? ⟨s, 31, none⟩ = some (.pointer (some ⟨q, 0, none⟩)) ∧ w3.rangeAt w.heap.size 0 (dvl x2))) (by kernel_rfl) (HSK.out _ (Kept.drew (Kept.refl (q :: v.ownBlock.toList) w3))) (fun hHeld => ?_)
      refine take_by 0 27 (v := ?_) rfl rfl (by kernel_rfl) (by kernel_rfl) (by kernel_rfl) (fun _ _ _ h => h) (Or.inl ⟨by rfl, ?_⟩) (by assumption) ?_
      rotate_left
      · (intro w hSw; (try dsimp only at hSw); go_simp; try with_reducible rfl)
      try simp only [List.setIfInBounds_toArray, List.set_cons_zero, List.set_cons_succ]
      refine take_by 1 28 (v := ?_) rfl rfl (by kernel_rfl) (by kernel_rfl) (by kernel_rfl) (fun _ _ _ h => h) (Or.inl ⟨by rfl, ?_⟩) (by assumption) ?_
      rotate_left
      · (intro w hSw; (try dsimp only at hSw); go_simp; try with_reducible rfl)
      try simp only [List.setIfInBounds_toArray, List.set_cons_zero, List.set_cons_succ]
      refine take_by 2 29 (v := ?_) rfl rfl (by kernel_rfl) (by kernel_rfl) (by kernel_rfl) (fun _ _ _ h => h) (Or.inl ⟨by rfl, ?_⟩) (by assumption) ?_
      rotate_left
      · (intro w hSw; (try dsimp only at hSw); go_simp; try with_reducible rfl)
      try simp only [List.setIfInBounds_toArray, List.set_cons_zero, List.set_cons_succ]
      refine take_by 3 30 (v := ?_) rfl rfl (by kernel_rfl) (by kernel_rfl) (by kernel_rfl) (fun _ _ _ h => h) (Or.inl ⟨by rfl, ?_⟩) (by assumption) ?_
      rotate_left
      · (intro w hSw; (try dsimp only at hSw); go_simp; try with_reducible rfl)
      try simp only [List.setIfInBounds_toArray, List.set_cons_zero, List.set_cons_succ]
      refine take_by 4 31 (v := ?_) rfl rfl (by kernel_rfl) (by kernel_rfl) (by kernel_rfl) (fun _ _ _ h => h) (Or.inl ⟨by rfl, ?_⟩) (by assumption) ?_
      rotate_left
      · (intro w hSw; (try dsimp only at hSw); go_simp; try with_reducible rfl)
      try simp only [List.setIfInBounds_toArray, List.set_cons_zero, List.set_cons_succ]
      refine take_by 5 32 (v := .agg (dvl x2).toArray) rfl rfl (by kernel_rfl) (by kernel_rfl) (by kernel_rfl) (fun _ _ _ h => h) (yieldsIf_load_mid (by rfl) 50 (.tmp 5) rfl w.heap.size (0) rfl (dvl x2) _ (fun _ hS => hS.2) Tryz.underlying50 rfl (by kernel_rfl)) (by assumption) ?_
      try simp only [List.setIfInBounds_toArray, List.set_cons_zero, List.set_cons_succ]
      refine wpAnyH_ready (rs := [6, 10]) (by kernel_rfl) (by simp) ?_
      refine AllReadyH.cons rfl (fun K hK => ?_) (AllReadyH.cons rfl (fun K hK => ?_) AllReadyH.nil)
      · go_simp
        (go_at_call 16; refine (HP.out _ (Kept.drew (Kept.refl [] w3))).mono ?_; rintro e w4 ⟨y, v2, rfl, hm, hk4, hv4⟩; have KB4 := hx hk4; have K4 := hx (show Kept (q :: v.ownBlock.toList) w3 w4 from (Kept.drew (Kept.refl [] w3)).trans hk4 (by simp) (fun _ h => .inl h)); have M4 := hx hm; have V4 := hx hv4; clear hk4 hm hv4)
        refine hK.out _ _ (HSK.out _ K4.out) (fun _ => ?_)
        clear hK K
        try simp only [Act.put, List.getElem_toArray, List.getElem_cons_succ, List.getElem_cons_zero, List.setIfInBounds_toArray, List.set_cons_zero, List.set_cons_succ]
        refine take_by 7 26 (v := ?_) rfl rfl (by kernel_rfl) (by kernel_rfl) (by kernel_rfl) (fun _ _ _ h => h) (Or.inl ⟨by rfl, ?_⟩) (by assumption) ?_
        rotate_left
        · (intro w hSw; (try dsimp only at hSw); go_simp; try with_reducible rfl)
        try simp only [List.setIfInBounds_toArray, List.set_cons_zero, List.set_cons_succ]
        refine take_by 8 34 (v := ?_) rfl rfl (by kernel_rfl) (by kernel_rfl) (by kernel_rfl) (fun _ _ _ h => h) (Or.inl ⟨by rfl, ?_⟩) (by assumption) ?_
        rotate_left
        · (intro w hSw; (try dsimp only at hSw); go_simp; try with_reducible rfl)
        try simp only [List.setIfInBounds_toArray, List.set_cons_zero, List.set_cons_succ]
        refine take_by 9 35 (v := ?_) rfl rfl (by kernel_rfl) (by kernel_rfl) (by kernel_rfl) (fun _ _ _ h => h) (Or.inl ⟨by rfl, ?_⟩) (by assumption) ?_
        rotate_left
        · (intro w hSw; (try dsimp only at hSw); go_simp; try with_reducible rfl)
        try simp only [List.setIfInBounds_toArray, List.set_cons_zero, List.set_cons_succ]
        refine wpAnyH_ready (rs := [10]) (by kernel_rfl) (by simp) ?_
        refine AllReadyH.cons rfl (fun K hK => ?_) AllReadyH.nil
        refine step_allocD rfl rfl ?_
        intro wa hba hka
        have BA := hx hba
        have KA2 := hx hka
        have KA := hx (show Kept (q :: v.ownBlock.toList) w3 wa from (K4.out).trans0 hka)
        clear hba hka
        refine hK.out _ _ (HSK.out _ KA.out) (fun _ => ?_)
        clear hK K
        try simp only [Act.put, List.getElem_toArray, List.getElem_cons_succ, List.getElem_cons_zero, List.setIfInBounds_toArray, List.set_cons_zero, List.set_cons_succ]
        refine wpAnyH_ready (rs := [11]) (by kernel_rfl) (by simp) ?_
        refine AllReadyH.cons rfl (fun K hK => ?_) AllReadyH.nil
        refine Qd.step_storeB rfl 50 (.tmp 8) (.tmp 34) rfl w4.heap.size rfl 50 (dvl dv0) (dvl y) rfl BA.out rfl infoDg (dvl_one _) ?_
        intro w5 hb5 hk5
        have P4 := Sr.pushed R3.out HBX.out M4.out (K4.out) V4.out
        have kf := KA2.out.trans hk5 (ds := []) (fun _ h => h) (fun g hg => by simp at hg; subst hg; exact .inr (Nat.le_refl _))
        have R5 := hx (P4.1.kept kf)
        have K5 := hx (K4.out.trans0 kf)
        refine hK.out _ _ (HSK.out _ K5.out) (fun _ => ?_)
        clear hK K hb5 hk5
        try simp only [Act.put, List.getElem_toArray, List.getElem_cons_succ, List.getElem_cons_zero, List.setIfInBounds_toArray, List.set_cons_zero, List.set_cons_succ]
        refine take_by 12 9 (v := ?_) rfl rfl (by kernel_rfl) (by kernel_rfl) (by kernel_rfl) (fun _ _ _ h => h) (Or.inl ⟨by rfl, ?_⟩) (by assumption) ?_
        rotate_left
        · (intro w hSw; (try dsimp only at hSw); go_simp; try with_reducible rfl)
        try simp only [List.setIfInBounds_toArray, List.set_cons_zero, List.set_cons_succ]
        refine wpAnyH_done (by kernel_rfl) ?_ _
        go_wp2_with fail
        go_meet
        exact ⟨rfl, v2, R5.out, K5.out, V4.out⟩
      · refine step_allocD rfl rfl ?_
        intro wa hba hka
        have BA := hx hba
        have KA2 := hx hka
        have KA := hx (show Kept [] w3 wa from (Kept.drew (Kept.refl [] w3)).trans0 hka)
        clear hba hka
        refine hK.out _ _ (HSK.out _ (KA.out.mono (by simp))) (fun _ => ?_)
        clear hK K
        try simp only [Act.put, List.getElem_toArray, List.getElem_cons_succ, List.getElem_cons_zero, List.setIfInBounds_toArray, List.set_cons_zero, List.set_cons_succ]
        refine wpAnyH_ready (rs := [6]) (by kernel_rfl) (by simp) ?_
        refine AllReadyH.cons rfl (fun K hK => ?_) AllReadyH.nil
        go_simp
        (go_at_call 16; refine (HP.out _ KA.out).mono ?_; rintro e w4 ⟨y, v2, rfl, hm, hk4, hv4⟩; have KB4 := hx hk4; have K4 := hx (show Kept (q :: v.ownBlock.toList) w3 w4 from KA.out.trans hk4 (by simp) (fun _ h => .inl h)); have M4 := hx hm; have V4 := hx hv4; clear hk4 hm hv4)
        refine hK.out _ _ (HSK.out _ K4.out) (fun _ => ?_)
        clear hK K
        try simp only [Act.put, List.getElem_toArray, List.getElem_cons_succ, List.getElem_cons_zero, List.setIfInBounds_toArray, List.set_cons_zero, List.set_cons_succ]
        refine take_by 7 26 (v := ?_) rfl rfl (by kernel_rfl) (by kernel_rfl) (by kernel_rfl) (fun _ _ _ h => h) (Or.inl ⟨by rfl, ?_⟩) (by assumption) ?_
        rotate_left
        · (intro w hSw; (try dsimp only at hSw); go_simp; try with_reducible rfl)
        try simp only [List.setIfInBounds_toArray, List.set_cons_zero, List.set_cons_succ]
        refine take_by 8 34 (v := ?_) rfl rfl (by kernel_rfl) (by kernel_rfl) (by kernel_rfl) (fun _ _ _ h => h) (Or.inl ⟨by rfl, ?_⟩) (by assumption) ?_
        rotate_left
        · (intro w hSw; (try dsimp only at hSw); go_simp; try with_reducible rfl)
        try simp only [List.setIfInBounds_toArray, List.set_cons_zero, List.set_cons_succ]
        refine take_by 9 35 (v := ?_) rfl rfl (by kernel_rfl) (by kernel_rfl) (by kernel_rfl) (fun _ _ _ h => h) (Or.inl ⟨by rfl, ?_⟩) (by assumption) ?_
        rotate_left
        · (intro w hSw; (try dsimp only at hSw); go_simp; try with_reducible rfl)
        try simp only [List.setIfInBounds_toArray, List.set_cons_zero, List.set_cons_succ]
        refine wpAnyH_ready (rs := [11]) (by kernel_rfl) (by simp) ?_
        refine AllReadyH.cons rfl (fun K hK => ?_) AllReadyH.nil
        refine Qd.step_storeB rfl 50 (.tmp 8) (.tmp 34) rfl w3.drew.heap.size rfl 50 (dvl dv0) (dvl y) rfl (KB4.out.blk BA.out (fun h => by have := R3.out.own_lt w3.heap.size (by simp only [own, List.mem_cons] at *; exact .inr (.inr h)); omega)) rfl infoDg (dvl_one _) ?_
        intro w5 hb5 hk5
        have P4 := Sr.pushed (R3.out.kept KA.out) (HBX.out.next KA.out (by simp) (fun g hg => .inl hg)) M4.out KB4.out V4.out
        have R5 := hx (P4.1.but hk5 (fun g hg ho => by simp only [List.mem_cons, List.not_mem_nil, or_false] at hg; have hq := R3.out.own_lt g; have hz := BA.out.lt; have hw : w3.drew.heap.size = w3.heap.size := rfl; simp only [own, List.mem_cons, Option.mem_toList] at ho hq; rcases ho with h | h | h | h; (have := hq (.inl h); omega); (have := hq (.inr (.inl h)); omega); (have := hq (.inr (.inr (.inl h))); omega); (rcases V4.out with e | ⟨g2, e, hs⟩; (rw [e] at h; have := hq (.inr (.inr (.inr h))); omega); (rw [e] at h; simp only [Option.some.injEq] at h; omega))) (fun y hy g o hp hd hg => by simp only [List.mem_cons, List.not_mem_nil, or_false] at hg; rcases pushS_mem hy with rfl | h; (have := HBX.out.lt hp hd; have hw : w3.drew.heap.size = w3.heap.size := rfl; omega); (have := (R3.out.dat y h).lt hp hd; have hw : w3.drew.heap.size = w3.heap.size := rfl; omega)))
        have K5 := hx (K4.out.trans hk5 (fun _ h => h) (fun g hg => by simp at hg; subst hg; exact .inr (Nat.le_refl _)))
        have V4 := hx (show v2.ownBlock = v.ownBlock ∨ ∃ g, v2.ownBlock = some g ∧ w3.heap.size ≤ g from V4.out.imp id (fun ⟨g, e, h⟩ => ⟨g, e, Nat.le_trans KA.out.size h⟩))
        refine hK.out _ _ (HSK.out _ K5.out) (fun _ => ?_)
        clear hK K hb5 hk5
        try simp only [Act.put, List.getElem_toArray, List.getElem_cons_succ, List.getElem_cons_zero, List.setIfInBounds_toArray, List.set_cons_zero, List.set_cons_succ]
        refine take_by 12 9 (v := ?_) rfl rfl (by kernel_rfl) (by kernel_rfl) (by kernel_rfl) (fun _ _ _ h => h) (Or.inl ⟨by rfl, ?_⟩) (by assumption) ?_
        rotate_left
        · (intro w hSw; (try dsimp only at hSw); go_simp; try with_reducible rfl)
        try simp only [List.setIfInBounds_toArray, List.set_cons_zero, List.set_cons_succ]
        refine wpAnyH_done (by kernel_rfl) ?_ _
        go_wp2_with fail
        go_meet
        exact ⟨rfl, v2, R5.out, K5.out, V4.out⟩
    case rest =>
      obtain ⟨rfl, v2, hR, hK, hV⟩ := hcut
      have RC := hx hR
      have KC := hx (K3.out.trans hK (ds := own s b q v) (by simp) (fun g hg => .inl (by simp only [own, List.mem_cons] at *; exact .inr (.inr hg))))
      have VC := hx (show v2.ownBlock = v.ownBlock ∨ ∃ g, v2.ownBlock = some g ∧ w.heap.size ≤ g from hV.imp id (fun ⟨g, e, h⟩ => ⟨g, e, Nat.le_trans K3.out.size h⟩))
      clear hR hK hV HP HSK HBX R3 HB3
      cases hg : goneB m.room m.s with
      | false =>
        have HG := hx hg
        clear hg
        go_wp2_with fail
        go_ret
        refine ⟨by rw [HC.out]; rfl, v2, pushM m rank x2, RC.out, KC.out, VC.out, ?_⟩
        rw [if_pos HC.out]
        exact ⟨x2, HFX.out, by rw [HG.out]; rfl⟩
      | true =>
        have HG := hx hg
        have cd := RC.out.hs.cell (i := 34) (v := .int .i64 m.drop) rfl
        have fd := RC.out.hs.free
        have d0 := HO.out.2.2.2.2.1
        have d1 := HO.out.2.2.2.2.2
        clear hg
        go_upto_region 9 with fail
        generalize hw8 : World.setCell wc _ _ = w8
        have HS8 := hx (show Blk w8 s (sdc { pushM m rank x2 with drop := m.drop + 1 } b q) 74 by rw [← hw8]; exact RC.out.hs.set 34 _)
        have K8 := hx (show Kept [s] wc w8 by rw [← hw8]; exact (Kept.refl _ _).setCell (.inl (by simp)) _)
        clear hw8 cd fd
        go_wp2_with fail
        go_ret
        refine ⟨by rw [HC.out]; rfl, v2, { pushM m rank x2 with drop := m.drop + 1 }, RC.out.cells K8.out HS8.out ⟨rfl, rfl, rfl, rfl, rfl, rfl, rfl, rfl⟩, KC.out.trans K8.out (fun _ h => h) (fun g hg => .inl (by simp at hg; subst hg; simp [own])), VC.out, ?_⟩
        rw [if_pos HC.out]
        exact ⟨x2, HFX.out, by rw [HG.out]; rfl⟩
  · have bc : (chk (pushD m d) != 0) = true := by simp [bne, hc]
    have HC := hx hc
    clear hc
    go_wp2_with (first
      | (refine load_blk rfl 50 (.tmp 5) rfl w.heap.size rfl 50 _ _ HB2.out Tryz.underlying50 rfl infoDg ?_)
      | (go_at_call 15; refine (HCK.out _ K2.out).mono ?_; rintro e w4 ⟨rfl, hk4⟩; have K4 := hx (K2.out.trans0 hk4); clear hk4))
    go_ret
    exact ⟨rfl, v, m, HR.out.kept K4.out, K4.out.mono (by simp), .inl rfl, by rw [if_neg HC.out]; exact ⟨rfl, rfl⟩⟩
end Go.Proofs.YtgdofgckjkmhjaaGreat.Mp
namespace Go.Proofs.YtgdofgckjkmhjaaGreat.Mp
open Go Go.RowKit
open Qd (dvl dv0 dvl_one infoDg step_of take_by)
set_option maxHeartbeats 800000 in
theorem size_any (x : Qd.Dv) (w : World) (hl : x.d.data.length ≤ 1000000) :
    Calls Tryz.prog 18 #[.agg (dvl x).toArray] w fun e w' => e = .returned (.int .i64 (33 + (x.d.data.length : Int))) ∧ Kept [] w w' := by
  have hb := Blk.new w (dvl x) 50
  have c := hb.cell (i := 10) (v := .slice x.p x.d.data.length x.c) rfl
  clear hb
  go_enter Tryz.func18, Tryz.ntmps18
  go_wp2
  go_ret
  exact ⟨ret_int (by omega), (Kept.refl _ _).alloc _⟩
/-- The cells of what went. -/
def outC (l : List (Nat × Qd.Dv)) : List Value := l.flatMap fun y => snt (y.1 : Int) y.2
theorem outC_app (a b : List (Nat × Qd.Dv)) : outC (a ++ b) = outC a ++ outC b := by simp [outC]
theorem infoSn3 : (Tryz.prog.info? 85).map (fun i => (i.zero, i.size, i.bytes)) = some (some (.agg (snt 0 dv0).toArray), 12, 96) := by kernel_rfl
theorem wpList_bs1 {P : Program} {w : World} {ops : Array Oper} {rest : List Oper} {o : Oper} {a : Act} {Q : Exit → Act → World → Prop} (hg : o.guard = none) (t e : TypeId) (x : Operand) (ho : o.op = .buildSlice t 1 #[(0, x)])
    (n bytes : Nat) (z : Value) (hinfo : (P.info? e).map (fun i => (i.zero, i.size, i.bytes)) = some (some z, n, bytes)) (vs : List Value) (hx : a.eval x = .agg vs.toArray) (hv : vs.length = n) (h0 : 0 < n) (hn : n ≤ 16777216)
    (hu : P.underlying t = some (.slice e)) (h : ∀ W', Blk W' w.heap.size vs e → Kept [] w W' → wpList P ops Q rest (a.put o.dst (.slice (some ⟨w.heap.size, 0, none⟩) 1 1)) W') : wpList P ops Q (o :: rest) a w := by
  obtain ⟨i, hi, hz0, hz1, hz2⟩ := info_parts hinfo
  refine wpList_buildSlice hg t e 1 _ ho vs.toArray i z hu hi hz0 (by omega) (by omega) ?_ (h _ (Blk.new w _ _) ((Kept.refl _ _).alloc _))
  have e1 : (#[((0 : Nat), x)].map fun (i, x) => (i, a.eval x)).toList = [(0, .agg vs.toArray)] := by simp [hx]
  rw [e1, hz1]
  exact Qd.fill_one n vs _ hv (by simp)
/-- One more has gone. -/
theorem out_app {w : World} {ops : Array Oper} {rest : List Oper} {o : Oper} {a : Act} {Q : Exit → Act → World → Prop} (hgd : o.guard = none) (s x : Operand)
    (ho : o.op = .call { callee := .builtin .append, args := #[s, x], argTypes := #[51, 51] })
    (base : Nat) (v : Value) (l : List (Nat × Qd.Dv)) (hs : a.eval s = v) (hown : w.ownsRow base 85 12 v l.length (outC l))
    (g : Nat) (y : Nat × Qd.Dv) (hx : a.eval x = .slice (some ⟨g, 0, none⟩) 1 1) (hb : Blk w g (snt (y.1 : Int) y.2) 85) (hroom : l.length ≤ 1000000) (hbase : base ≤ w.heap.size)
    (h : ∀ v' w', w'.ownsRow base 85 12 v' (l ++ [y]).length (outC (l ++ [y])) → w.grownBy w' v.ownBlock → wpList Tryz.prog ops Q rest (a.put o.dst v') w') : wpList Tryz.prog ops Q (o :: rest) a w := by
  refine wpList_app hgd s x 51 ho base 85 (.agg (snt 0 dv0).toArray) 12 96 infoSn3 Tryz.underlying51 rfl (by omega) v l.length (outC l) hs hown (some ⟨g, 0, none⟩) 1 1 (snt (y.1 : Int) y.2) hx rfl (by simp) (by omega) (newsP hb) (snt_one _ _) (by unfold maxLen; omega) (by omega) hbase ?_
  intro v' w' h1 h2
  refine h v' w' ?_ h2
  rw [List.length_append, outC_app]
  simpa [outC] using h1
end Go.Proofs.YtgdofgckjkmhjaaGreat.Mp
namespace Go.Proofs.YtgdofgckjkmhjaaGreat.Mp
open Go Go.RowKit
open Qd (dvl dv0 dvl_one infoDg step_of take_by)
def keepD (m : Ms) : Qd.Dv := ⟨{ Qd.dg0 with kind := 7, sess := m.sess }, none, 0⟩
theorem builtKeep (m : Ms) : Tryz.prog.built 50 [(0, .int .i64 7), (1, .int .u32 (m.sess : Int))] = some (dvl (keepD m)).toArray := by kernel_rfl
/-- So many bytes go. -/
def takeM (m : Ms) (n : Int) : Ms := { m with held := m.held - n, spent := Mp.hold (m.spent + n), full := m.full }
def tick0 (m : Ms) : Ms := { m with now := (m.now + 1) % 4294967296, held := heldT m.rt m.burst m.held, spent := m.spent, full := fullT m.rt m.burst m.held m.full }
/-- A way's tick. -/
def tick1 (m : Ms) (i : Nat) : Ms × List (Nat × Qd.Dv) :=
  if (tickP (m.way i)).2 = true ∧ 33 ≤ m.held then (stM (takeM (m.setW i (tickP (m.way i)).1) 33) i, [(i, stD (takeM (m.setW i (tickP (m.way i)).1) 33) i (keepD m))]) else (m.setW i (tickP (m.way i)).1, [])
def accM (m : Ms) : Nat → Ms × List (Nat × Qd.Dv)
  | 0 => (tick0 m, [])
  | i + 1 => ((tick1 (accM m i).1 i).1, (accM m i).2 ++ (tick1 (accM m i).1 i).2)
def tickM (m : Ms) : Ms × List (Nat × Qd.Dv) := accM m 2
theorem Ok.setW {m : Ms} {k t u : Int} (o : Ok m k t) (htu : t ≤ u) (i : Nat) (p : Pa) (hp : PaOk p k u) : Ok (m.setW i p) k u := by
  unfold Ms.setW
  split
  · exact ⟨hp, o.p1.mono (Int.le_refl _) htu, o.rt, o.burst, o.held, o.spent, o.full, o.room, o.turns, o.len, o.sess, o.now, o.drop, ⟨o.hold.1, by have := o.hold.2; show m.hold ≤ u; omega⟩, o.its⟩
  · exact ⟨o.p0.mono (Int.le_refl _) htu, hp, o.rt, o.burst, o.held, o.spent, o.full, o.room, o.turns, o.len, o.sess, o.now, o.drop, ⟨o.hold.1, by have := o.hold.2; show m.hold ≤ u; omega⟩, o.its⟩
theorem Ok.take {m : Ms} {k t : Int} (o : Ok m k t) (n : Int) (h0 : 0 ≤ n) (hn : n ≤ m.held) : Ok (takeM m n) k t :=
  ⟨o.p0, o.p1, o.rt, o.burst, ⟨by show 0 ≤ m.held - n; omega, by have := o.held.2; show m.held - n ≤ m.burst; omega⟩, hold_bd _, o.full, o.room, o.turns, o.len, o.sess, o.now, o.drop, o.hold, o.its⟩
theorem way_set {m : Ms} {i : Nat} {p : Pa} (_hi : i < 2) : (m.setW i p).way i = p := by
  unfold Ms.setW Ms.way
  by_cases h : i = 0
  · rw [if_pos h, if_pos h]
  · rw [if_neg h, if_neg h]
theorem Ok.stamp {m : Ms} {k t : Int} (o : Ok m k t) (i : Nat) : Ok (stM m i) k t := o.setW (Int.le_refl _) i _ (next_ok _ k t (o.way i))
theorem tick0_ok {m : Ms} {k t : Int} (o : Ok m k t) : Ok (tick0 m) k t :=
  ⟨o.p0, o.p1, o.rt, o.burst, by
    have h1 := o.held
    have h2 := o.rt
    show 0 ≤ heldT m.rt m.burst m.held ∧ heldT m.rt m.burst m.held ≤ m.burst
    unfold heldT
    omega, o.spent, hold_bd _, o.room, o.turns, o.len, o.sess, Nat.mod_lt _ (by omega), o.drop, o.hold, o.its⟩
theorem tick1_ok {m : Ms} {k t : Int} (o : Ok m k t) (i : Nat) (ht : 0 ≤ t) : Ok (tick1 m i).1 k (t + 1) := by
  have h1 : Ok (m.setW i (tickP (m.way i)).1) k (t + 1) := o.setW (by omega) i _ (tick_ok _ k t (o.way i))
  have hh : (m.setW i (tickP (m.way i)).1).held = m.held := (setW_same m i _).2.2.1
  unfold tick1
  split
  · rename_i h
    exact (h1.take 33 (by omega) (by rw [hh]; exact h.2)).stamp i
  · exact h1
theorem acc_ok {m : Ms} {k t : Int} (o : Ok m k t) (ht : 0 ≤ t) : ∀ i : Nat, Ok (accM m i).1 k (t + i)
  | 0 => by simpa [accM] using tick0_ok o
  | i + 1 => by
    have h := tick1_ok (acc_ok o ht i) i (by omega)
    rw [show t + ((i + 1 : Nat) : Int) = t + (i : Int) + 1 by push_cast; omega]
    exact h
theorem setW_sess (m : Ms) (i : Nat) (p : Pa) : (m.setW i p).sess = m.sess := by unfold Ms.setW; split <;> rfl
theorem tick1_none {m : Ms} {i : Nat} (h : ¬ ((tickP (m.way i)).2 = true ∧ 33 ≤ m.held)) : tick1 m i = (m.setW i (tickP (m.way i)).1, []) := by unfold tick1; rw [if_neg h]
theorem tick1_some {m : Ms} {i : Nat} (h : (tickP (m.way i)).2 = true ∧ 33 ≤ m.held) : tick1 m i = (stM (takeM (m.setW i (tickP (m.way i)).1) 33) i, [(i, stD (takeM (m.setW i (tickP (m.way i)).1) 33) i (keepD m))]) := by unfold tick1; rw [if_pos h]
theorem acc_len (m : Ms) : ∀ i, (accM m i).2.length ≤ i
  | 0 => Nat.le_refl _
  | i + 1 => by
    have h := acc_len m i
    show ((accM m i).2 ++ (tick1 (accM m i).1 i).2).length ≤ i + 1
    rw [List.length_append]
    unfold tick1
    split <;> simp <;> omega
theorem stM_s (m : Ms) (i : Nat) : (stM m i).s = m.s := (setW_same m i _).2.2.2.2.2.2.2
theorem tick1_s (m : Ms) (i : Nat) : (tick1 m i).1.s = m.s := by
  unfold tick1
  split
  · rw [stM_s]; exact (setW_same m i _).2.2.2.2.2.2.2
  · exact (setW_same m i _).2.2.2.2.2.2.2
theorem acc_s (m : Ms) : ∀ i, (accM m i).1.s = m.s
  | 0 => rfl
  | i + 1 => by
    show (tick1 (accM m i).1 i).1.s = m.s
    rw [tick1_s, acc_s m i]
/-- A row of the call's own grows. -/
theorem Sr.row {w0 w w' : World} {s b q n : Nat} {v u : Value} {m : Ms} {T : TypeId} {xs : List Value} {size : Nat} (r : Sr w s b q v m) (ho : w.ownsRow w0.heap.size T size u n xs) (hg : w.grownBy w' u.ownBlock) (h1 : ∀ g, g ∈ own s b q v → g < w0.heap.size) (h2 : ∀ x, x ∈ m.s → ∀ g o, x.v.p = some (⟨g, o, none⟩ : Addr) → x.v.d.data ≠ [] → g < w0.heap.size) : Sr w' s b q v m := by
  have hk : Kept u.ownBlock.toList w w' := (Kept.refl _ _).grown hg (fun k e => .inl (by simp [e]))
  refine r.but hk (fun g hm ho2 => ?_) (fun x hx g o hp hd hm => ?_)
  · have := h1 g ho2
    have := (ho.lt g (by simpa using hm)).1
    omega
  · have := h2 x hx g o hp hd
    have := (ho.lt g (by simpa using hm)).1
    omega
/-- What a tick tells. -/
def TickP (w : World) (s b q : Nat) (v : Value) (r : Ms × List (Nat × Qd.Dv)) (e : Ending) (w' : World) : Prop :=
  ∃ u, e = .returned u ∧ w'.ownsRow w.heap.size 85 12 u r.2.length (outC r.2) ∧ Sr w' s b q v r.1 ∧ Kept [s, b] w w'
set_option linter.unusedSimpArgs false in
set_option maxRecDepth 100000 in
set_option maxHeartbeats 12800000 in
theorem tick_m (s b q : Nat) (v : Value) (m : Ms) (k t : Int) (w : World) (r : Sr w s b q v m) (o : Ok m k t) (ht0 : 0 ≤ t) (ht : t ≤ 900000) :
    Calls Tryz.prog 34 #[.pointer (some ⟨s, 0, none⟩)] w (TickP w s b q v (tickM m)) := by
  have HR := hx r
  have HOK := hx o
  have HN := hx r.ne
  have hsl := r.own_lt
  have HSL := hx hsl
  have cn := r.hs.cell (i := 33) (v := .int .u32 m.now) rfl
  have ff := r.hs.free
  have hnw := o.now
  clear r o hsl
  go_enter Tryz.func34, Tryz.ntmps34
  go_upto_region 2 with fail
  generalize hw1 : World.setCell w _ _ = w1
  have HS1 := hx (show Blk w1 s (sdc { m with now := (m.now + 1) % 4294967296 } b q) 74 by
    rw [← hw1]
    refine (show ∀ x, x = (((m.now + 1) % 4294967296 : Nat) : Int) → Blk (w.setCell ⟨s, 33, none⟩ (.int .u32 x)) s (sdc { m with now := (m.now + 1) % 4294967296 } b q) 74 from fun x hx => by subst hx; exact HR.out.hs.set 33 _) _ ?_
    first | rfl | (push_cast; rfl) | (push_cast; omega) | (rw [IntKind.wrap_u32]; push_cast; omega))
  have K1 := hx (show Kept [s] w w1 by rw [← hw1]; exact (Kept.refl _ _).setCell (.inl (by simp)) _)
  clear hw1 cn ff
  have R1 := hx (HR.out.cells (m' := { m with now := (m.now + 1) % 4294967296 }) K1.out HS1.out ⟨rfl, rfl, rfl, rfl, rfl, rfl, rfl, rfl⟩)
  have cb := R1.out.hs.cell (i := 30) (v := .pointer (some ⟨b, 0, none⟩)) rfl
  have HBT := hx (btick_any b m.rt m.burst m.held m.spent m.full w1 R1.out.hb HOK.out.rt HOK.out.burst HOK.out.held HOK.out.full)
  go_upto_region 3 with (go_at_call 61; refine HBT.out.mono ?_; rintro e w2 ⟨rfl, hb2, hk2⟩; have R2 := hx (R1.out.bucket _ _ _ hk2 hb2); have K2 := hx (show Kept [s, b] w w2 from (K1.out.mono (cs := [s, b]) (fun x h => .inl (by simp at h; simp [h]))).trans hk2 (fun _ h => h) (fun x h => .inl (by simp at h; simp [h]))); clear hb2 hk2 cb)
  clear HBT R1 HS1 K1 hnw
  have R20 := hx (show Sr w2 s b q v (accM m 0).1 from R2.out)
  clear R2
  go_wp2_with fail
  go_loopw [18, 3] (fun s18 s3 wr => ∃ i : Nat, s18 = .int .i64 (i : Int) ∧ i ≤ 2 ∧ Hx (wr.ownsRow w.heap.size 85 12 s3 (accM m i).2.length (outC (accM m i).2)) ∧ Hx (Sr wr s b q v (accM m i).1) ∧ Hx (Kept [s, b] w wr)) (fun s18 _ _ => 2 - (intOf s18).toNat)
  case atStart => exact ⟨0, rfl, by omega, hx (World.ownsRow_nil _ _ _ _), R20, K2⟩
  case round =>
    obtain ⟨i, rfl, hi, HROW, HRR, HKK⟩ := hrel
    by_cases hlt : i < 2
    · have hl : (i : Int) < 2 := by omega
      have OKI := hx (acc_ok HOK.out ht0 i)
      have HLT := hx hlt
      have HLN := hx (acc_len m i)
      obtain ⟨M, hM⟩ : ∃ M, (accM m i).1 = M := ⟨_, rfl⟩
      obtain ⟨L, hL⟩ : ∃ L, (accM m i).2 = L := ⟨_, rfl⟩
      have HNX := hx (show (accM m (i + 1)).1 = (tick1 M i).1 ∧ (accM m (i + 1)).2 = L ++ (tick1 M i).2 by rw [← hM, ← hL]; exact ⟨rfl, rfl⟩)
      rw [hM] at OKI HRR
      rw [hL] at HROW HLN
      have HMM := hx (show M.s = m.s by rw [← hM]; exact acc_s m i)
      clear hM hL hi
      have HW := OKI.out.way i
      have HTK := hx (tick_any s (i * 15) (sdc M b q) 74 (M.way i) wr HRR.out.hs (part_way M b q HLT.out) HW.quiet.1 (by have := HW.quiet.2; have := HLT.out; omega) HW.gap.1 HW.gap.2 HW.probe.1 HW.probe.2)
      obtain ⟨P, hP⟩ : ∃ P, (tickP (M.way i)).1 = P := ⟨_, rfl⟩
      rw [hP] at HTK
      have HT0 := hx (@tick1_none M i)
      have HT1 := hx (@tick1_some M i)
      rw [hP] at HT0 HT1
      have OKN := hx (OKI.out.setW (u := t + i + 1) (by omega) i P (by rw [← hP]; exact tick_ok _ k _ (OKI.out.way i)))
      have HSM := hx (setW_same M i P)
      clear hP HW
      cases hb : (tickP (M.way i)).2 with
      | false =>
        have HE := hx (HT0.out (by rw [hb]; simp))
        rw [hb] at HTK
        clear hb HT0 HT1
        go_wp2_with (go_at_call 62; refine HTK.out.mono ?_; rintro e w3 ⟨rfl, hb3, hk3⟩; have R3 := hx (HRR.out.way HLT.out P hk3 hb3); have K3 := hx hk3; clear hb3 hk3)
        go_roundw
        case rel =>
          refine ⟨i + 1, by push_cast; rfl, by have := HLT.out; omega, ?_, ?_, hx (HKK.out.trans K3.out (fun _ h => h) (fun x h => .inl (by simp at h; simp [h])))⟩
          · rw [HNX.out.2, HE.out, List.append_nil]
            exact hx (Qd.own_kept3 HROW.out (fun g cs hv hg => K3.out.block g (Array.getElem?_eq_some_iff.1 hg).1 (by have h1 := (HROW.out.lt g hv).1; have h2 := HSL.out s (by simp [own]); simp; omega)))
          · rw [HNX.out.1, HE.out]
            exact R3
        case measure =>
          simp only [intOf]
          have := HLT.out
          omega
      | true =>
        rw [hb] at HTK
        go_upto_region 8 with (go_at_call 62; refine HTK.out.mono ?_; rintro e wt ⟨rfl, hb3, hk3⟩; have RT := hx (HRR.out.way HLT.out P hk3 hb3); have KT := hx hk3; clear hb3 hk3)
        have cs : wt.cell? ⟨s, 32, none⟩ = some (.int .u32 (M.sess : Int)) := by
          have h := RT.out.hs.cell (i := 32) (v := .int .u32 ((M.setW i P).sess : Int)) rfl
          rw [setW_sess] at h
          exact h
        obtain ⟨kd, hkd⟩ : ∃ kd, keepD M = kd := ⟨_, rfl⟩
        have HBK := hx (builtKeep M)
        rw [hkd] at HBK HT1
        have HKD := hx (show kd.d.data.length = 0 by rw [← hkd]; rfl)
        clear hkd
        go_upto_region 9 with (first
          | (refine wpList_built rfl 50 _ rfl _ [(0, .int .i64 7), (1, .int .u32 (M.sess : Int))] (by simp only [List.map_toArray, List.map_cons, List.map_nil]; rfl) HBK.out ?_)
          | (refine store_blk rfl 50 (.tmp 5) (.tmp 31) rfl wt.heap.size rfl 50 _ (dvl kd) rfl (Blk.new wt (dvl dv0) 50) rfl infoDg (dvl_one _) ?_; intro w3 hb5 hk5; have B3 := hx hb5; have KW := hx (((Kept.refl [] wt).alloc _).trans hk5 (ds := []) (fun _ h => h) (fun x h => by simp at h; subst h; exact .inr (Nat.le_refl _))); clear hb5 hk5))
        have R3 := hx (RT.out.kept KW.out)
        have K3 := hx (show Kept [s] wr w3 from KT.out.trans0 KW.out)
        obtain ⟨g5, hg5⟩ : ∃ g5, wt.heap.size = g5 := ⟨_, rfl⟩
        have hrt := HKK.out.size
        have hrt2 := KT.out.size
        rw [hg5] at B3
        rw [hg5]
        have HG5 := hx (show w.heap.size ≤ g5 by omega)
        have HSB := hx (show s < w.heap.size ∧ b < w.heap.size from ⟨HSL.out s (by simp [own]), HSL.out b (by simp [own])⟩)
        have HZ := hx (fun W => show Calls Tryz.prog 18 #[.agg (dvl kd).toArray] W (fun e w' => e = .returned (.int .i64 33) ∧ Kept [] W w') from by
          have h := size_any kd W (by rw [HKD.out]; omega)
          rw [HKD.out] at h
          exact h)
        have HSK := hx (fun (W : World) (hk : Kept [b] w3 W) => show (fun w3 => w3.cell? ⟨s, 30, none⟩ = some (.pointer (some ⟨b, 0, none⟩)) ∧ w3.rangeAt g5 0 (dvl kd)) W from ⟨(hk.blk R3.out.hs (by have := HN.out.sb; simp; exact this)).cell (i := 30) rfl, (hk.blk B3.out (by have := HSB.out.2; have := HG5.out; simp; omega)).range⟩)
        have hhd := HSM.out.2.2.1
        have HKR := hx (fun (W : World) (hk : Kept [s, b] wr W) => show W.ownsRow w.heap.size 85 12 _ L.length (outC L) from Qd.own_kept3 HROW.out (fun g cs hv hg => hk.block g (Array.getElem?_eq_some_iff.1 hg).1 (by have h1 := (HROW.out.lt g hv).1; have h2 := HSB.out; simp; omega)))
        clear hg5 hrt hrt2 cs HTK HBK KW RT KT
        by_cases h33 : 33 ≤ M.held
        · have HE := hx (HT1.out ⟨hb, h33⟩)
          have HT := hx (fun (W : World) (hk : Kept [] w3 W) => btake_yes b _ _ _ _ _ 33 W ((R3.out.kept hk).hb) (by omega) (by rw [hhd]; exact h33) (by have h1 := OKN.out.held.2; have h2 := OKN.out.burst.2; omega) OKN.out.spent)
          have hnx : ((takeM (M.setW i P) 33).way i).next < 4294967296 := (OKN.out.way i).next
          have HNXT := hx hnx
          have HMS := hx (show (takeM (M.setW i P) 33).s = m.s by show (M.setW i P).s = m.s; rw [HSM.out.2.2.2.2.2.2.2]; exact HMM.out)
          have HSTM := hx (stM_s (takeM (M.setW i P) 33) i)
          clear hb HT0 HT1 hhd h33 hnx
          refine wp_region_held_drew (S := (fun w3 => w3.cell? ⟨s, 30, none⟩ = some (.pointer (some ⟨b, 0, none⟩)) ∧ w3.rangeAt g5 0 (dvl kd))) (by kernel_rfl) (HSK.out _ (Kept.drew (Kept.refl [b] w3))) (fun hHeld => ?_)
          refine take_by 0 32 (v := ?_) rfl rfl (by kernel_rfl) (by kernel_rfl) (by kernel_rfl) (fun _ _ _ h => h) (Or.inl ⟨by rfl, ?_⟩) (by assumption) ?_
          rotate_left
          · (intro w hSw; (try dsimp only at hSw); go_simp; try with_reducible rfl)
          try simp only [List.setIfInBounds_toArray, List.set_cons_zero, List.set_cons_succ]
          refine take_by 1 33 (v := ?_) rfl rfl (by kernel_rfl) (by kernel_rfl) (by kernel_rfl) (fun _ _ _ h => h) (Or.inl ⟨by rfl, ?_⟩) (by assumption) ?_
          rotate_left
          · (intro w hSw; (try dsimp only at hSw); go_simp; try with_reducible rfl)
          try simp only [List.setIfInBounds_toArray, List.set_cons_zero, List.set_cons_succ]
          refine take_by 2 34 (v := ?_) rfl rfl (by kernel_rfl) (by kernel_rfl) (by kernel_rfl) (fun _ _ _ h => h) (Or.inl ⟨by rfl, ?_⟩) (by assumption) ?_
          rotate_left
          · (intro w hSw; (try dsimp only at hSw); go_simp; try with_reducible rfl)
          try simp only [List.setIfInBounds_toArray, List.set_cons_zero, List.set_cons_succ]
          refine take_by 3 35 (v := ?_) rfl rfl (by kernel_rfl) (by kernel_rfl) (by kernel_rfl) (fun _ _ _ h => h) (Or.inl ⟨by rfl, ?_⟩) (by assumption) ?_
          rotate_left
          · (intro w hSw; (try dsimp only at hSw); go_simp; try with_reducible rfl)
          try simp only [List.setIfInBounds_toArray, List.set_cons_zero, List.set_cons_succ]
          refine take_by 4 36 (v := .agg (dvl kd).toArray) rfl rfl (by kernel_rfl) (by kernel_rfl) (by kernel_rfl) (fun _ _ _ h => h) (yieldsIf_load_mid (by rfl) 50 (.tmp 5) rfl g5 (0) rfl (dvl kd) _ (fun _ hS => hS.2) Tryz.underlying50 rfl (by kernel_rfl)) (by assumption) ?_
          try simp only [List.setIfInBounds_toArray, List.set_cons_zero, List.set_cons_succ]
          refine wpAnyH_ready (rs := [5]) (by kernel_rfl) (by simp) ?_
          refine AllReadyH.cons rfl (fun K hK => ?_) AllReadyH.nil
          go_simp
          (go_at_call 18; refine (HZ.out _).mono ?_; rintro e w4 ⟨rfl, hk4⟩; have K4 := hx (show Kept [] w3 w4 from (Kept.drew (Kept.refl [] w3)).trans0 hk4); clear hk4)
          refine hK.out _ _ (HSK.out _ (K4.out.mono (by simp))) (fun hHeld => ?_)
          clear hK K
          try simp only [Act.put, List.setIfInBounds_toArray, List.set_cons_zero, List.set_cons_succ]
          refine wpAnyH_ready (rs := [6]) (by kernel_rfl) (by simp) ?_
          refine AllReadyH.cons rfl (fun K hK => ?_) AllReadyH.nil
          go_simp
          (go_at_call 21; refine (HT.out _ K4.out).mono ?_; rintro e w5 ⟨rfl, hb5, hk5⟩; have R5 := hx ((R3.out.kept K4.out).bucket _ _ _ hk5 hb5); have K5 := hx (show Kept [b] w3 w5 from (K4.out.mono (by simp)).trans hk5 (fun _ h => h) (fun _ h => .inl h)); clear hb5 hk5)
          refine hK.out _ _ (HSK.out _ K5.out) (fun hHeld => ?_)
          clear hK K
          try simp only [Act.put, List.setIfInBounds_toArray, List.set_cons_zero, List.set_cons_succ]
          refine wpAnyH_done (by kernel_rfl) ?_ _
          have R6 := hx (show Sr w5 s b q v (takeM (M.setW i P) 33) from R5.out)
          clear R5 HT HZ
          obtain ⟨M5, hM5⟩ : ∃ M5, takeM (M.setW i P) 33 = M5 := ⟨_, rfl⟩
          rw [hM5] at R6 HE HNXT HMS HSTM
          clear hM5
          have HST := hx (stamp_m s b q i v M5 kd w5 R6.out HLT.out HNXT.out)
          have B5 := hx ((K5.out.blk B3.out (by have := HSB.out.2; have := HG5.out; simp; omega)))
          have k5 : Kept [s, b] wr w5 := (K3.out.mono (cs := [s, b]) (fun x h => .inl (by simp at h; simp [h]))).trans K5.out (fun _ h => h) (fun x h => .inl (by simp at h; simp [h]))
          have KA := hx k5
          have HDT := hx (fun (x : Qd.It) (hx2 : x ∈ m.s) (g o : Nat) (hp : x.v.p = some (⟨g, o, none⟩ : Addr)) (hd : x.v.d.data ≠ []) => (HR.out.dat x hx2).lt hp hd)
          clear k5
          go_wp2_with (first
            | (refine load_blk rfl 50 (.tmp 5) rfl g5 rfl 50 _ _ B5.out Tryz.underlying50 rfl infoDg ?_)
            | (go_at_call 23; refine HST.out.mono ?_; rintro e w6 ⟨rfl, hr6, hk6⟩; have RS := hx hr6; have KS := hx (show Kept [s, b] wr w6 from KA.out.trans hk6 (fun _ h => h) (fun x h => .inl (by simp at h; simp [h]))); clear hr6 hk6)
            | (refine wpList_bs1 rfl 51 85 (.tmp 43) rfl 12 96 _ infoSn3 (snt (i : Int) (stD M5 i kd)) rfl rfl (by omega) (by omega) Tryz.underlying51 ?_; intro w7 hb7 hk7; have B7 := hx hb7; have K7 := hx (show Kept [s, b] wr w7 from KS.out.trans0 hk7); have R7 := hx (RS.out.kept hk7); clear hb7 hk7)
            | (refine out_app rfl (.tmp 39) (.tmp 44) rfl w.heap.size _ L rfl (HKR.out _ K7.out) w6.heap.size (i, stD M5 i kd) rfl B7.out (by have := HLN.out; have := HLT.out; omega) (Nat.le_trans HKK.out.size K7.out.size) ?_; intro v8 w8 ho8 hg8; have HO8 := hx ho8; have K8 := hx (show Kept [s, b] w w8 from (HKK.out.trans1 K7.out).grown hg8 (fun g hg => .inr ((HKR.out _ K7.out).lt g hg).1)); have R8 := hx (R7.out.row (HKR.out _ K7.out) hg8 HSL.out (fun x hx2 => HDT.out x (by rw [← HMS.out, ← HSTM.out]; exact hx2))); clear ho8 hg8))
          go_roundw
          case rel =>
            refine ⟨i + 1, by push_cast; rfl, by have := HLT.out; omega, ?_, ?_, K8⟩
            · rw [HNX.out.2, HE.out]
              exact HO8
            · rw [HNX.out.1, HE.out]
              exact R8
          case measure =>
            simp only [intOf]
            have := HLT.out
            omega
        · have HE := hx (HT0.out (by rw [hb]; simp; omega))
          have HT := hx (fun (W : World) (hk : Kept [] w3 W) => btake_no b _ _ _ _ _ 33 W ((R3.out.kept hk).hb) (by rw [hhd]; omega))
          clear hb HT0 HT1 hhd h33
          refine wp_region_held_drew (S := (fun w3 => w3.cell? ⟨s, 30, none⟩ = some (.pointer (some ⟨b, 0, none⟩)) ∧ w3.rangeAt g5 0 (dvl kd))) (by kernel_rfl) (HSK.out _ (Kept.drew (Kept.refl [b] w3))) (fun hHeld => ?_)
          refine take_by 0 32 (v := ?_) rfl rfl (by kernel_rfl) (by kernel_rfl) (by kernel_rfl) (fun _ _ _ h => h) (Or.inl ⟨by rfl, ?_⟩) (by assumption) ?_
          rotate_left
          · (intro w hSw; (try dsimp only at hSw); go_simp; try with_reducible rfl)
          try simp only [List.setIfInBounds_toArray, List.set_cons_zero, List.set_cons_succ]
          refine take_by 1 33 (v := ?_) rfl rfl (by kernel_rfl) (by kernel_rfl) (by kernel_rfl) (fun _ _ _ h => h) (Or.inl ⟨by rfl, ?_⟩) (by assumption) ?_
          rotate_left
          · (intro w hSw; (try dsimp only at hSw); go_simp; try with_reducible rfl)
          try simp only [List.setIfInBounds_toArray, List.set_cons_zero, List.set_cons_succ]
          refine take_by 2 34 (v := ?_) rfl rfl (by kernel_rfl) (by kernel_rfl) (by kernel_rfl) (fun _ _ _ h => h) (Or.inl ⟨by rfl, ?_⟩) (by assumption) ?_
          rotate_left
          · (intro w hSw; (try dsimp only at hSw); go_simp; try with_reducible rfl)
          try simp only [List.setIfInBounds_toArray, List.set_cons_zero, List.set_cons_succ]
          refine take_by 3 35 (v := ?_) rfl rfl (by kernel_rfl) (by kernel_rfl) (by kernel_rfl) (fun _ _ _ h => h) (Or.inl ⟨by rfl, ?_⟩) (by assumption) ?_
          rotate_left
          · (intro w hSw; (try dsimp only at hSw); go_simp; try with_reducible rfl)
          try simp only [List.setIfInBounds_toArray, List.set_cons_zero, List.set_cons_succ]
          refine take_by 4 36 (v := .agg (dvl kd).toArray) rfl rfl (by kernel_rfl) (by kernel_rfl) (by kernel_rfl) (fun _ _ _ h => h) (yieldsIf_load_mid (by rfl) 50 (.tmp 5) rfl g5 (0) rfl (dvl kd) _ (fun _ hS => hS.2) Tryz.underlying50 rfl (by kernel_rfl)) (by assumption) ?_
          try simp only [List.setIfInBounds_toArray, List.set_cons_zero, List.set_cons_succ]
          refine wpAnyH_ready (rs := [5]) (by kernel_rfl) (by simp) ?_
          refine AllReadyH.cons rfl (fun K hK => ?_) AllReadyH.nil
          go_simp
          (go_at_call 18; refine (HZ.out _).mono ?_; rintro e w4 ⟨rfl, hk4⟩; have K4 := hx (show Kept [] w3 w4 from (Kept.drew (Kept.refl [] w3)).trans0 hk4); clear hk4)
          refine hK.out _ _ (HSK.out _ (K4.out.mono (by simp))) (fun hHeld => ?_)
          clear hK K
          try simp only [Act.put, List.setIfInBounds_toArray, List.set_cons_zero, List.set_cons_succ]
          refine wpAnyH_ready (rs := [6]) (by kernel_rfl) (by simp) ?_
          refine AllReadyH.cons rfl (fun K hK => ?_) AllReadyH.nil
          go_simp
          (go_at_call 21; refine (HT.out _ K4.out).mono ?_; rintro e w5 ⟨rfl, rfl⟩; have R5 := hx (R3.out.kept K4.out); have K5 := hx K4.out)
          refine hK.out _ _ (HSK.out _ (K5.out.mono (by simp))) (fun hHeld => ?_)
          clear hK K
          try simp only [Act.put, List.setIfInBounds_toArray, List.set_cons_zero, List.set_cons_succ]
          refine wpAnyH_done (by kernel_rfl) ?_ _
          go_wp2_with fail
          go_roundw
          case rel =>
            have kk : Kept [s, b] wr w4 := (K3.out.mono (cs := [s, b]) (fun x h => .inl (by simp at h; simp [h]))).trans0 K5.out
            refine ⟨i + 1, by push_cast; rfl, by have := HLT.out; omega, ?_, ?_, hx (HKK.out.trans kk (fun _ h => h) (fun x h => .inl h))⟩
            · rw [HNX.out.2, HE.out, List.append_nil]
              exact hx (HKR.out _ kk)
            · rw [HNX.out.1, HE.out]
              exact R5
          case measure =>
            simp only [intOf]
            have := HLT.out
            omega
    · obtain rfl : i = 2 := by omega
      clear hi hlt
      go_wp2_with fail
      go_ret
      exact ⟨_, rfl, HROW.out, HRR.out, HKK.out⟩
end Go.Proofs.YtgdofgckjkmhjaaGreat.Mp
