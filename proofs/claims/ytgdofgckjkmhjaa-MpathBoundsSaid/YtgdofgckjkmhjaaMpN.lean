/- By which ways one goes. A sender's New, Waiting, Heard. -/
import Derived.Test.YtgdofgckjkmhjaaMpT
import Derived.Deep.CutBlock
namespace Go.Proofs.Ytgdofgckjkmhjaa.Mp
open Go Go.RowKit
/-- Does it go by all ways? -/
def manyB (m : Ms) (f : Nat) (rank : Int) : Bool := decide (rank ≤ 0) || (decide (rank = 1) && (decide (6553 ≤ (m.way f).s.loss) || decide (stateI (m.way f).quiet ≠ 0)))
/-- The ways. -/
def choM (m : Ms) (rank : Int) : List Nat :=
  if keyI m.p1 < keyI m.p0 then (if manyB m 1 rank && (decide (stateI m.p0.quiet ≠ 2) || decide (stateI m.p1.quiet = 2)) then [1, 0] else [1])
  else (if manyB m 0 rank && (decide (stateI m.p1.quiet ≠ 2) || decide (stateI m.p0.quiet = 2)) then [0, 1] else [0])
/-- A list of small numbers, as it lies. -/
structure IntsAt (w : World) (v : Value) (l : List Nat) : Prop where
  at_ : ∃ g c xs, v = .slice (some ⟨g, 0, none⟩) l.length c ∧ l.length ≤ c ∧ c ≤ maxLen ∧ Blk w g xs 3 ∧ ∀ j, j < l.length → xs[j]? = some (.int .i64 ((l.getD j 0 : Nat) : Int))
theorem IntsAt.kept {w w' : World} {v : Value} {l : List Nat} (h : IntsAt w v l) (hk : Kept [] w w') : IntsAt w' v l := by
  obtain ⟨g, c, xs, h1, h2, h3, h4, h5⟩ := h.at_
  exact ⟨g, c, xs, h1, h2, h3, hk.blk h4 (by simp), h5⟩
theorem ordM_two (m : Ms) : ∃ f g, ordM m = [f, g] ∧ f < 2 ∧ g < 2 ∧ f ≠ g ∧ ∀ rank, choM m rank = if manyB m f rank && (decide (stateI (m.way g).quiet ≠ 2) || decide (stateI (m.way f).quiet = 2)) then [f, g] else [f] := by
  unfold ordM choM
  split
  · exact ⟨1, 0, rfl, by omega, by omega, by omega, fun _ => rfl⟩
  · exact ⟨0, 1, rfl, by omega, by omega, by omega, fun _ => rfl⟩
theorem wpList_grow1 {P : Program} {w : World} {ops : Array Oper} {rest : List Oper} {o : Oper} {a : Act} {Q : Exit → Act → World → Prop} (hgd : o.guard = none) (s x : Operand) (t : TypeId)
    (ho : o.op = .call { callee := .builtin .append, args := #[s, x], argTypes := #[t, t] })
    (e : TypeId) (z : Value) (size bytes : Nat) (hinfo : (P.info? e).map (fun i => (i.zero, i.size, i.bytes)) = some (some z, size, bytes)) (ht : P.underlying t = some (.slice e))
    (hzs : z.cells.size = size) (hsz : 0 < size)
    (b : Addr) (n : Nat) (olds : List Value) (hs : a.eval s = .slice (some b) n n) (hlo : olds.length = n * size) (holds : ∀ j u, olds[j]? = some u → w.cell? (b.add j) = some u)
    (ad : Addr) (c : Nat) (news : List Value) (hx : a.eval x = .slice (some ad) 1 c) (hn : news.length = 1 * size) (hc : ∀ j u, news[j]? = some u → w.cell? (ad.add j) = some u)
    (b1 : n + 1 ≤ maxLen) (b2 : (n + 1) * bytes ≤ 140737488355328)
    (h : ∀ v' w', w'.ownsRow w.heap.size e size v' (n + 1) (olds ++ news) → w.grownBy w' none → wpList P ops Q rest (a.put o.dst v') w') : wpList P ops Q (o :: rest) a w := by
  refine wpList_plain hgd fun K hK => ?_
  obtain ⟨i, hi, hz0, hz1, hz2⟩ := info_parts hinfo
  obtain ⟨v', w', hrun, r1, r2⟩ := run_append_arg_grows (P := P) w t o.type e i z size bytes ht hi hz0 hz1 hz2 hzs hsz b n n olds hlo holds ad 1 c news hn hc (by omega) b1 b2
  unfold Oper.wp execOp
  simp only [ho, resolve, invoke, builtin, Sem.run_bind, Sem.run_pure, Result.andThen_ok, List.map_toArray, List.map_cons, List.map_nil, hs, hx, hrun]
  exact hK _ _ (h v' w' r1 r2)
theorem own_ints {w : World} {base n : Nat} {v : Value} {l : List Nat} (h : w.ownsRow base 3 1 v n (ints l)) (h0 : 0 < n) : IntsAt w v l := by
  have hl := own_len h
  rcases h.2 with ⟨_, hn⟩ | ⟨g, cap, cur, rfl, _, hg, hn, hc, hs, ht⟩
  · omega
  · subst hl
    refine ⟨g, cap, cur.toList, rfl, hn, hc, hg, fun j hj => ?_⟩
    have h2 : (cur.toList.take (l.length * 1))[j]? = (ints l)[j]? := by rw [ht]
    rw [List.getElem?_take_of_lt (by omega), ints_get l j hj] at h2
    exact h2
def ChoP (w : World) (l : List Nat) (e : Ending) (w' : World) : Prop := ∃ u, e = .returned u ∧ IntsAt w' u l ∧ Kept [] w w' ∧ ∀ g, u.ownBlock = some g → w.heap.size ≤ g
set_option maxRecDepth 100000 in
set_option maxHeartbeats 6400000 in
theorem choose_m (s b q : Nat) (v : Value) (m : Ms) (k t rank : Int) (w : World) (r : Sr w s b q v m) (o : Ok m k t) (hk : 65 * k ≤ 1000000) :
    Calls Try.prog 18 #[.pointer (some ⟨s, 0, none⟩), .int .i64 rank] w (ChoP w (choM m rank)) := by
  have HO := hx (order_m s b q v m k t w r o hk)
  obtain ⟨f, g2, hord, hf, hg2, hfg, hcho⟩ := ordM_two m
  rw [hord] at HO
  have HR := hx r
  have HST := hx (fun (i : Nat) (hi : i < 2) (W : World) (hk2 : Kept [] w W) => state_any s (i * 15) (sdc m b q) 64 (m.way i) W (r.kept hk2).hs (part_way m b q hi))
  have HCH := hx (hcho rank)
  have hff : (f : Int) < 2 := by omega
  have hgg : (g2 : Int) < 2 := by omega
  have HF := hx (And.intro hf (And.intro hg2 hfg))
  have hls : ∀ W, Kept [] w W → W.cell? ⟨s, f * 15, none⟩ = some (.int .i64 (m.way f).s.loss) := fun W hk2 => by
    have h := (r.kept hk2).hs.part (part_way m b q hf) 0 (.int .i64 (m.way f).s.loss) rfl
    exact h
  have HLS := hx hls
  clear r o hord hf hg2 hfg hcho hls
  go_enter Try.func18, Try.ntmps18
  go_upto_region 2 with (go_at_call 31; refine HO.out.mono ?_; rintro e w1 ⟨u, rfl, ho, hk1⟩; have HOW := hx ho; have K1 := hx hk1; clear ho hk1)
  obtain ⟨g, c, xs, hu, hgc, hcm, hbx, hcl⟩ := (own_ints HOW.out (by omega)).at_
  have hu2 : u = .slice (some ⟨g, 0, none⟩) 2 c := hu
  subst hu2
  clear hu
  have e0 : w1.cell? ⟨g, 0, none⟩ = some (.int .i64 (f : Int)) := hbx.cell (hcl 0 (by simp))
  have e1 : w1.cell? ⟨g, 1, none⟩ = some (.int .i64 (g2 : Int)) := hbx.cell (hcl 1 (by simp))
  have hgc2 : 2 ≤ c := hgc
  have HC := hx (And.intro e0 (And.intro e1 (And.intro hgc2 hcm)))
  have HGF := hx (show w.heap.size ≤ g from (HOW.out.lt g rfl).1)
  have HBX := hx (fun (W : World) (hk3 : Kept [] w1 W) => hk3.blk hbx (by simp))
  have HX0 := hx (show xs[0]? = some (.int .i64 (f : Int)) from hcl 0 (by simp))
  clear hcl hgc HO e1 hgc2 hcm hbx
  go_cut [6] (fun s6 wx => s6 = .pointer (some ⟨s, f * 15, none⟩) ∧ Kept [] w1 wx)
  case first =>
    go_quiet (fail)
    all_goals (go_wp2_with fail)
    all_goals (go_meet; exact ⟨rfl, (Kept.refl _ _).drewN _⟩)
  case rest =>
    obtain ⟨rfl, hk2⟩ := hcut
    have K2 := hx (K1.out.trans0 hk2)
    have HB2 := hx (fun (W : World) (hk3 : Kept [] wc W) => HBX.out W (hk2.trans0 hk3))
    have HC2 := hx (And.intro (kept_cell' hk2 HC.out.1) (And.intro (kept_cell' hk2 HC.out.2.1) HC.out.2.2))
    clear hk2 e0
    have cl := HLS.out wc K2.out
    have hc1 : (1 : Int) ≤ (c : Int) := by have := HC2.out.2.2.1; omega
    have hc2 : (2 : Int) ≤ (c : Int) := by have := HC2.out.2.2.1; omega
    go_upto_region 3 with fail
    go_cut [7] (fun s7 wx => s7 = .bool (manyB m f rank) ∧ wx = wc)
    case first =>
      have HS := hx (HST.out f HF.out.1 wc K2.out)
      obtain ⟨x, hxx⟩ : ∃ x, stateI (m.way f).quiet = x := ⟨_, rfl⟩
      obtain ⟨L, hL⟩ : ∃ L, (m.way f).s.loss = L := ⟨_, rfl⟩
      have HM := hx (show manyB m f rank = (decide (rank ≤ 0) || (decide (rank = 1) && (decide (6553 ≤ L) || decide (x ≠ 0)))) by unfold manyB; rw [hxx, hL])
      rw [hxx] at HS
      rw [hL] at cl
      clear hxx hL HC HC2 HCH
      by_cases h1 : rank ≤ 0
      · have d1 : decide (rank ≤ 0) = true := decide_eq_true h1
        have E := hx (show manyB m f rank = true by rw [HM.out]; simp [h1])
        go_wp2_with (go_at_call 32; refine HS.out.mono ?_; rintro e w1 ⟨rfl, rfl⟩)
        go_meet
        exact ⟨Eq.trans rfl (congrArg Value.bool E.out.symm), rfl⟩
      · have d1 : decide (rank ≤ 0) = false := decide_eq_false h1
        by_cases h2 : rank = 1
        · subst h2
          by_cases h3 : 6553 ≤ L
          · have d3 : decide (6553 ≤ L) = true := decide_eq_true h3
            have E := hx (show manyB m f 1 = true by rw [HM.out]; simp [h3])
            go_wp2_with (go_at_call 32; refine HS.out.mono ?_; rintro e w1 ⟨rfl, rfl⟩)
            go_meet
            exact ⟨Eq.trans rfl (congrArg Value.bool E.out.symm), rfl⟩
          · have d3 : decide (6553 ≤ L) = false := decide_eq_false h3
            by_cases h4 : x = 0
            · subst h4
              have E := hx (show manyB m f 1 = false by rw [HM.out]; simp [h3])
              go_wp2_with (go_at_call 32; refine HS.out.mono ?_; rintro e w1 ⟨rfl, rfl⟩)
              go_meet
              exact ⟨Eq.trans rfl (congrArg Value.bool E.out.symm), rfl⟩
            · have d4 : (x != 0) = true := by simp [bne, h4]
              have E := hx (show manyB m f 1 = true by rw [HM.out]; simp [h4])
              go_wp2_with (go_at_call 32; refine HS.out.mono ?_; rintro e w1 ⟨rfl, rfl⟩)
              go_meet
              exact ⟨Eq.trans rfl (congrArg Value.bool E.out.symm), rfl⟩
        · have d2 : (rank == 1) = false := beq_eq_false_iff_ne.2 h2
          have E := hx (show manyB m f rank = false by rw [HM.out]; simp [h2]; omega)
          go_wp2_with (go_at_call 32; refine HS.out.mono ?_; rintro e w1 ⟨rfl, rfl⟩)
          go_meet
          exact ⟨Eq.trans rfl (congrArg Value.bool E.out.symm), rfl⟩
    case rest =>
      obtain ⟨rfl, rfl⟩ := hcut
      have HCZ := hx HC2.out
      clear cl HLS
      cases hm : manyB m f rank with
      | false =>
        have HFIN := hx (show choM m rank = [f] by rw [HCH.out, hm]; rfl)
        clear hm
        go_wp2_with fail
        go_ret
        rw [HFIN.out]
        exact ⟨_, rfl, ⟨⟨g, c, xs, rfl, (show 1 ≤ c by have := HCZ.out.2.2.1; omega), HCZ.out.2.2.2, HB2.out _ (Kept.refl _ _), fun j hj => by simp at hj; subst hj; exact HX0.out⟩⟩, K2.out, fun g3 hg3 => by have h5 : some g = some g3 := hg3; cases h5; exact HGF.out⟩
      | true =>
        obtain ⟨fv, hfv⟩ : ∃ fv : Nat → Int, fv = fun i => stateI (m.way i).quiet := ⟨_, rfl⟩
        have HS := hx (fun (i : Nat) (W : World) (hi : i < 2) (hk2 : Kept [] w W) => show Calls Try.prog 32 #[.pointer (some ⟨s, i * 15, none⟩)] W (fun e w' => e = .returned (.int .i64 (fv i)) ∧ W = w') from by rw [hfv]; exact HST.out i hi W hk2)
        have hx1 : stateI (m.way f).quiet = fv f := by rw [hfv]
        have hx2 : stateI (m.way g2).quiet = fv g2 := by rw [hfv]
        obtain ⟨R, hRR⟩ : ∃ R, (if (true && (decide (fv g2 ≠ 2) || decide (fv f = 2))) = true then [f, g2] else [f]) = R := ⟨_, rfl⟩
        have HFIN := hx (show choM m rank = R by rw [HCH.out, hm, hx1, hx2]; exact hRR)
        have HRR := hx hRR
        clear hm hx1 hx2 HST HCH hRR HC hfv
        go_wp2_with fail
        go_loopw [48, 8] (fun s48 s8 wr => ∃ i : Nat, s48 = .int .i64 (i : Int) ∧ i ≤ 1 ∧ Hx (Kept [] wc wr) ∧ ((i = 0 ∧ s8 = .slice (some ⟨g, 0, none⟩) 1 1) ∨ (i = 1 ∧ IntsAt wr s8 R ∧ ∀ g3, s8.ownBlock = some g3 → w.heap.size ≤ g3))) (fun s48 _ _ => 1 - (intOf s48).toNat)
        case atStart => exact ⟨0, rfl, by omega, hx (Kept.refl _ _), .inl ⟨rfl, rfl⟩⟩
        case round =>
          obtain ⟨i, rfl, hi, HK, hcase⟩ := hrel
          rcases hcase with ⟨rfl, rfl⟩ | ⟨rfl, hints, hfre⟩
          · have e1 := kept_cell' HK.out HCZ.out.2.1
            have hnews := hx (fun (W : World) (hk3 : Kept [] wr W) => show ∀ j u, [Value.int .i64 (f : Int)][j]? = some u → W.cell? ((⟨g, 0, none⟩ : Addr).add j) = some u from fun j u hj => by
              obtain rfl : j = 0 := by have := (List.getElem?_eq_some_iff.1 hj).1; simp at this; exact this
              simp only [List.getElem?_cons_zero, Option.some.injEq] at hj
              subst hj
              rw [Addr.add_mid]
              exact kept_cell' hk3 (kept_cell' HK.out HCZ.out.1))
            have HB := hx (Blk.new wr [.int .i64 (g2 : Int)] 3)
            have HA := hx ((Kept.refl [] wr).alloc (.cells #[.int .i64 (g2 : Int)] 3))
            have GROW := hx (fun (W : World) (v5 : Value) (w5 : World) (hk3 : Kept [] wr W) (ho : w5.ownsRow W.heap.size 3 1 v5 (1 + 1) ([.int .i64 (f : Int)] ++ [.int .i64 (g2 : Int)])) (hg : W.grownBy w5 none) => And.intro (own_ints (l := [f, g2]) ho (by omega)) (And.intro ((HK.out.trans0 hk3).grown hg (fun k hk => by cases hk)) (fun g3 hg3 => Nat.le_trans (Nat.le_trans K2.out.size (Nat.le_trans HK.out.size hk3.size)) (ho.lt g3 hg3).1)))
            have hcc : (1 : Int) ≤ 1 := Int.le_refl _
            clear hi
            by_cases h2 : fv g2 = 2
            · have d2 : (fv g2 != 2) = false := by simp [h2]
              by_cases h1 : fv f = 2
              · have d1 : (fv f == 2) = true := by simp [h1]
                have HE := hx (show R = [f, g2] by rw [← HRR.out]; simp [h1])
                clear h1 h2
                go_wp2_with (first
                  | (go_at_call 32; refine (HS.out _ _ (by first | exact HF.out.1 | exact HF.out.2.1) (K2.out.trans0 HK.out)).mono ?_; rintro e w1 ⟨rfl, rfl⟩)
                  | (refine wpList_grow1 rfl (.tmp 64) (.tmp 66) 24 rfl 3 (.int .i64 0) 1 8 infoInt Try.underlying24 rfl (by omega) ⟨g, 0, none⟩ 1 [.int .i64 (f : Int)] rfl rfl (hnews.out _ HA.out) ⟨wr.heap.size, 0, none⟩ 1 [.int .i64 (g2 : Int)] rfl rfl (Qd.newsB HB.out) (by unfold maxLen; omega) (by omega) ?_; intro v5 w5 ho5 hg5; have G5 := hx (GROW.out _ v5 w5 HA.out ho5 hg5); clear ho5 hg5))
                go_roundw
                case rel => exact ⟨1, rfl, by omega, hx G5.out.2.1, .inr ⟨rfl, by rw [HE.out]; exact G5.out.1, G5.out.2.2⟩⟩
                case measure => simp [intOf]
              · have d1 : (fv f == 2) = false := by simp [h1]
                have HE := hx (show R = [f] by rw [← HRR.out]; simp [h1, h2])
                clear h1 h2
                go_wp2_with (go_at_call 32; refine (HS.out _ _ (by first | exact HF.out.1 | exact HF.out.2.1) (K2.out.trans0 HK.out)).mono ?_; rintro e w1 ⟨rfl, rfl⟩)
                go_roundw
                case rel => exact ⟨1, rfl, by omega, HK, .inr ⟨rfl, by rw [HE.out]; exact ⟨⟨g, 1, xs, rfl, Nat.le_refl _, by unfold maxLen; omega, HB2.out _ HK.out, fun j hj => by simp at hj; subst hj; exact HX0.out⟩⟩, fun g3 hg3 => by have h5 : some g = some g3 := hg3; cases h5; exact HGF.out⟩⟩
                case measure => simp [intOf]
            · have d2 : (fv g2 != 2) = true := by simp [bne, h2]
              have HE := hx (show R = [f, g2] by rw [← HRR.out]; simp [h2])
              clear h2
              go_wp2_with (first
                | (go_at_call 32; refine (HS.out _ _ (by first | exact HF.out.1 | exact HF.out.2.1) (K2.out.trans0 HK.out)).mono ?_; rintro e w1 ⟨rfl, rfl⟩)
                | (refine wpList_grow1 rfl (.tmp 64) (.tmp 66) 24 rfl 3 (.int .i64 0) 1 8 infoInt Try.underlying24 rfl (by omega) ⟨g, 0, none⟩ 1 [.int .i64 (f : Int)] rfl rfl (hnews.out _ HA.out) ⟨wr.heap.size, 0, none⟩ 1 [.int .i64 (g2 : Int)] rfl rfl (Qd.newsB HB.out) (by unfold maxLen; omega) (by omega) ?_; intro v5 w5 ho5 hg5; have G5 := hx (GROW.out _ v5 w5 HA.out ho5 hg5); clear ho5 hg5))
              go_roundw
              case rel => exact ⟨1, rfl, by omega, hx G5.out.2.1, .inr ⟨rfl, by rw [HE.out]; exact G5.out.1, G5.out.2.2⟩⟩
              case measure => simp [intOf]
          · have HI := hx (And.intro hints hfre)
            clear hints hi hfre
            go_wp2_with fail
            go_ret
            rw [HFIN.out]
            exact ⟨_, rfl, HI.out.1, K2.out.trans0 HK.out, HI.out.2⟩
end Go.Proofs.Ytgdofgckjkmhjaa.Mp
namespace Go.Proofs.Ytgdofgckjkmhjaa.Mp
open Go Go.RowKit
def ms0 (sess rt : Nat) (burst room : Int) : Ms := ⟨pa0, pa0, rt, burst, burst, 0, 0, room, 0, [], sess, 0, 0, 0⟩
theorem builtSd (b q sess rt : Nat) (burst room : Int) : Try.prog.built 64 [(1, .pointer (some ⟨b, 0, none⟩)), (2, .pointer (some ⟨q, 0, none⟩)), (3, .int .u32 (sess : Int))] = some (sdc (ms0 sess rt burst room) b q).toArray := by kernel_rfl
theorem ms0_ok (sess rt : Nat) (burst room : Int) (h1 : 1 ≤ rt ∧ rt ≤ 1048576) (h2 : 1 ≤ burst ∧ burst ≤ 16777216) (h3 : 1 ≤ room ∧ room ≤ 256) (hs : sess < 4294967296) : Ok (ms0 sess rt burst room) 0 0 := by
  have e : (ms0 sess rt burst room).held = burst ∧ (ms0 sess rt burst room).burst = burst ∧ (ms0 sess rt burst room).s = [] ∧ (ms0 sess rt burst room).room = room := ⟨rfl, rfl, rfl, rfl⟩
  refine ⟨pa0_ok, pa0_ok, h1, h2, ?_, by simp [ms0, Fits], by simp [ms0, Fits], h3, by simp [ms0], ?_, hs, by simp [ms0], by simp [ms0], by simp [ms0], fun x hx => by rw [e.2.2.1] at hx; simp at hx⟩
  · rw [e.1, e.2.1]; omega
  · rw [e.2.2.1, e.2.2.2]; simp; omega
/-- A new sender's blocks are new. -/
def NewP (w : World) (sess rt : Nat) (burst room : Int) (e : Ending) (w' : World) : Prop :=
  ∃ s b q, e = .returned (.tuple #[.pointer (some ⟨s, 0, none⟩), .int .i64 0]) ∧ Sr w' s b q (.slice none 0 0) (ms0 sess rt burst room) ∧ Kept [] w w' ∧ w.heap.size ≤ s ∧ w.heap.size ≤ b ∧ w.heap.size ≤ q
set_option maxRecDepth 100000 in
set_option maxHeartbeats 3200000 in
theorem new_m (sess rt : Nat) (burst room : Int) (w : World) (h1 : 1 ≤ rt ∧ rt ≤ 1048576) (h2 : 1 ≤ burst ∧ burst ≤ 16777216) (h3 : 1 ≤ room ∧ room ≤ 256) :
    Calls Try.prog 6 #[.int .u32 (sess : Int), .int .i64 (rt : Int), .int .i64 burst, .int .i64 room] w (NewP w sess rt burst room) := by
  have HB := hx (bnew_any (rt : Int) burst w (by omega) h2)
  have HQ := hx (fun W => Qd.new_any room W h3.1 h3.2)
  go_enter Try.func6, Try.ntmps6
  go_wp2_with (first
    | (go_at_call 14; refine HB.out.mono ?_; rintro e w1 ⟨rfl, hb1, hk1⟩; have B1 := hx hb1; have K1 := hx hk1; clear hb1 hk1)
    | (go_at_call 15; refine (HQ.out _).mono ?_; rintro e w2 ⟨rfl, hb2, hk2⟩; have B2 := hx hb2; have K2 := hx hk2; clear hb2 hk2)
    | (refine wpList_built rfl 64 _ rfl _ [(1, .pointer (some ⟨w.heap.size, 0, none⟩)), (2, .pointer (some ⟨w1.heap.size, 0, none⟩)), (3, .int .u32 (sess : Int))] (by simp only [List.map_toArray, List.map_cons, List.map_nil]; rfl) (builtSd w.heap.size w1.heap.size sess rt burst room) ?_))
  go_ret2
  have hz := K1.out.size
  have hz2 := K2.out.size
  have KA := (Kept.refl [] w2).alloc (.cells (sdc (ms0 sess rt burst room) w.heap.size w1.heap.size).toArray 64)
  refine ⟨w2.heap.size, w.heap.size, w1.heap.size, rfl, ⟨Blk.new _ _ _, KA.blk (K2.out.blk B1.out (by simp)) (by simp), ⟨[], Qd.Qs.new (KA.blk B2.out (by simp)), Qd.Rp.nil⟩, fun x hx => by simp [ms0] at hx⟩, (K1.out.trans0 K2.out).trans0 KA, by omega, Nat.le_refl _, hz⟩
set_option maxHeartbeats 800000 in
theorem waiting_m (s b q : Nat) (v : Value) (m : Ms) (w : World) (r : Sr w s b q v m) :
    Calls Try.prog 13 #[.pointer (some ⟨s, 0, none⟩)] w fun e w' => e = .returned (.int .i64 (m.s.length : Int)) ∧ w = w' := by
  have c := r.hs.cell (i := 31) (v := .pointer (some ⟨q, 0, none⟩)) rfl
  obtain ⟨h, hq, hr⟩ := r.hq
  have HL := hx (Qd.len_any q v m.room m.turns h w hq)
  rw [← hr.len] at HL
  clear r hq hr
  go_enter Try.func13, Try.ntmps13
  go_wp2_with (go_at_call 27; refine HL.out.mono ?_; rintro e w1 ⟨rfl, rfl⟩)
  go_ret
  exact ⟨rfl, rfl⟩
set_option maxRecDepth 100000 in
set_option maxHeartbeats 1600000 in
theorem heard_m (s b q i n : Nat) (v : Value) (m : Ms) (k t : Int) (w : World) (r : Sr w s b q v m) (o : Ok m k t) (hi : i < 2) (hk : 65 * k ≤ 900000) (hk2 : k ≤ 100) (hn : n < 4294967296) :
    Calls Try.prog 10 #[.pointer (some ⟨s, 0, none⟩), .int .i64 (i : Int), .int .u32 (n : Int)] w fun e w' => e = .returned (.int .i64 (heardP (m.way i) n).2) ∧ Sr w' s b q v (m.setW i (heardP (m.way i) n).1) ∧ Kept [s] w w' := by
  have HH := hx (heard_any s (i * 15) n (sdc m b q) 64 (m.way i) w r.hs (part_way m b q hi) ((o.way i).s.mono hk) ((o.way i).seen.mono hk2) hn)
  have HR := hx r
  have HI := hx hi
  have h0 : ¬ (i : Int) < 0 := by omega
  have h1 : ¬ (2 : Int) ≤ (i : Int) := by omega
  have h2 : (i : Int) < 2 := by omega
  clear r o hi
  go_enter Try.func10, Try.ntmps10
  go_wp2_with (go_at_call 25; refine HH.out.mono ?_; rintro e w1 ⟨rfl, hb, hk⟩; have B := hx hb; have K := hx hk; clear hb hk)
  go_ret
  exact ⟨rfl, HR.out.way HI.out _ K.out B.out, K.out⟩
theorem heard_out (s : Nat) (i : Int) (n : Nat) (w : World) (hi : i < 0 ∨ 2 ≤ i) :
    Calls Try.prog 10 #[.pointer (some ⟨s, 0, none⟩), .int .i64 i, .int .u32 (n : Int)] w fun e w' => e = .returned (.int .i64 62) ∧ w = w' := by
  rcases hi with h | h
  · go_enter Try.func10, Try.ntmps10
    go_wp2
    go_ret
    exact ⟨rfl, rfl⟩
  · have h0 : ¬ i < 0 := by omega
    go_enter Try.func10, Try.ntmps10
    go_wp2
    go_ret
    exact ⟨rfl, rfl⟩
end Go.Proofs.Ytgdofgckjkmhjaa.Mp
