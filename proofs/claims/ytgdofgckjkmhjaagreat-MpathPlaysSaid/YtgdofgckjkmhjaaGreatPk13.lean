/- The document's bucket. The document's rows of datagrams. Datagrams alike. Chapter 15: are datagrams that went the document's? Printed by k/gen_mpsa.py. -/
import Derived.Test.YtgdofgckjkmhjaaGreatPk11
import Derived.Test.YtgdofgckjkmhjaaGreatPk12
import Derived.WalkLawsBesides
import Derived.Deep.DeepCutAuto
import Derived.Deep.Onto
import Derived.Test.YtgdofgckjkmhjaaGreatPk05
import Derived.Deep.RegionWith
import Derived.BigQuiet
set_option linter.unusedSimpArgs false
set_option linter.unusedVariables false
namespace Go.Proofs.YtgdofgckjkmhjaaGreat.Mp
open Go Go.RowKit
open Qd (dvl dv0 dvl_one infoDg step_of)
theorem wval_of (n : Int) : n = wval (decide (n < 0)) n.natAbs := by
  unfold wval
  by_cases h : n < 0
  · rw [decide_eq_true h]; simp; omega
  · rw [decide_eq_false h]; simp; omega
theorem Of_any (n : Int) (w : World) (h : -9223372036854775808 ≤ n ∧ n ≤ 9223372036854775807) :
    Calls Tryz.prog 93 #[.int .i64 n] w fun e w' => e = .returned (.agg (wide (decide (n < 0)) n.natAbs).toArray) ∧ Kept [] w w' :=
  of_any n n.natAbs (decide (n < 0)) w (wval_of n) rfl h.1 h.2
theorem wval_not (b : Bool) (n : Nat) : wval (!b) n = -wval b n := by unfold wval; cases b <;> simp
theorem lt9 {n : Nat} (h : n ≤ 36893488147419103232) : n < 65536 ^ 9 := Nat.lt_of_le_of_lt h (by decide)
set_option maxHeartbeats 800000 in
theorem radd_any (a b : Int) (w : World) (ha : -9223372036854775808 ≤ a ∧ a ≤ 9223372036854775807) (hb : -9223372036854775808 ≤ b ∧ b ≤ 9223372036854775807) :
    Calls Tryz.prog 79 #[.int .i64 a, .int .i64 b] w fun e w' => e = .returned (.int .i64 (Go.Proofs.YtgdofgckjkmhjaaGreat.hold (a + b))) ∧ Kept [] w w' := by
  have hA : a.natAbs ≤ 9223372036854775808 := by have := ha.1; have := ha.2; omega
  have hB : b.natAbs ≤ 9223372036854775808 := by have := hb.1; have := hb.2; omega
  have ea := Lib.hid (wval_of a)
  have eb := Lib.hid (wval_of b)
  have hA' := Lib.hid hA
  have hB' := Lib.hid hB
  have oa := Lib.hid (fun w => Of_any a w ha)
  have ob := Lib.hid (fun w => Of_any b w hb)
  clear hA hB ha hb
  generalize hna : decide (a < 0) = na at *
  generalize hnb : decide (b < 0) = nb at *
  generalize hAA : a.natAbs = A at *
  generalize hBB : b.natAbs = B at *
  clear hna hnb hAA hBB
  go_enter Tryz.func79, Tryz.ntmps79
  go_wp2_with fail
  refine (oa.out _).mono ?_
  rintro e w1 ⟨rfl, hk1⟩
  go_wp2_with fail
  refine (ob.out _).mono ?_
  rintro e w2 ⟨rfl, hk2⟩
  go_wp2_with fail
  refine (Plus_any na nb A B (lt9 (by have := hA'.out; omega)) (lt9 (by have := hB'.out; omega)) _).mono ?_
  rintro e w3 ⟨rfl, hk3⟩
  go_wp2_with fail
  refine (Held_any _ _ (lt9 (by have := plusN_le na A nb B; have := hA'.out; have := hB'.out; omega)) _).mono ?_
  rintro e w4 ⟨rfl, hk4⟩
  rw [plus_val, ← ea.out, ← eb.out]
  go_wp2
  go_ret
  exact ⟨rfl, ((hk1.trans0 hk2).trans0 hk3).trans0 hk4⟩
set_option maxHeartbeats 800000 in
theorem rmul1_any (rt : Nat) (w : World) (h : rt ≤ 1048576) :
    Calls Tryz.prog 78 #[.int .i64 (rt : Int), .int .i64 1] w fun e w' => e = .returned (.int .i64 (rt : Int)) ∧ Kept [] w w' := by
  have OA := hx (fun W => of_any (rt : Int) rt false W (by simp [wval]) (decide_eq_false (by omega)).symm (by omega) (by omega))
  have OB := hx (fun W => of_any 1 1 false W (by simp [wval]) (decide_eq_false (by omega)).symm (by omega) (by omega))
  have z1 : (1048576 : Nat) < 65536 ^ 4 := by decide
  have z2 : (1 : Nat) < 65536 ^ 4 := by decide
  have z3 : rt < 65536 ^ 9 := lt9 (by omega)
  have TM := hx (fun W => show Calls Tryz.prog 92 #[.agg (wide false rt).toArray, .agg (wide false 1).toArray] W (fun e w' => e = .returned (.agg (wide false rt).toArray) ∧ Kept [] W w') from by
    have g := times_any false false rt 1 (Nat.lt_of_le_of_lt h z1) z2 W
    rw [Nat.mul_one] at g
    exact g)
  have HE := hx (fun W => show Calls Tryz.prog 91 #[.agg (wide false rt).toArray] W (fun e w' => e = .returned (.int .i64 (rt : Int)) ∧ Kept [] W w') from by
    have g := Held_any false rt z3 W
    have e : Go.Proofs.YtgdofgckjkmhjaaGreat.hold (wval false rt) = (rt : Int) := by
      unfold wval Go.Proofs.YtgdofgckjkmhjaaGreat.hold
      simp only [Bool.false_eq_true, if_false]
      rw [if_neg (by omega), if_neg (by omega)]
    rw [e] at g
    exact g)
  clear z1 z2 z3
  go_enter Tryz.func78, Tryz.ntmps78
  go_wp2_with fail
  refine (OA.out _).mono ?_
  rintro e w1 ⟨rfl, hk1⟩
  go_wp2_with fail
  refine (OB.out _).mono ?_
  rintro e w2 ⟨rfl, hk2⟩
  go_wp2_with fail
  refine (TM.out _).mono ?_
  rintro e w3 ⟨rfl, hk3⟩
  go_wp2_with fail
  refine (HE.out _).mono ?_
  rintro e w4 ⟨rfl, hk4⟩
  go_wp2
  go_ret
  exact ⟨rfl, ((hk1.trans0 hk2).trans0 hk3).trans0 hk4⟩
theorem infoBk : (Tryz.prog.info? 37).map (·.size) = some 5 := by kernel_rfl
theorem bkc_one (a b c d e : Int) : ∀ v ∈ bkc a b c d e, v.oneCell' = true := by
  intro v hv
  simp only [bkc, List.mem_cons, List.not_mem_nil, or_false] at hv
  rcases hv with rfl | rfl | rfl | rfl | rfl <;> rfl
theorem fullT_eq (rt : Nat) (burst held full : Int) : Go.Proofs.YtgdofgckjkmhjaaGreat.hold (full + ((rt : Int) - min (rt : Int) (burst - held))) = fullT rt burst held full := by
  unfold fullT
  rw [show (rt : Int) - min (rt : Int) (burst - held) = max 0 ((rt : Int) - (burst - held)) by omega]
  rfl
set_option maxRecDepth 100000 in
set_option maxHeartbeats 3200000 in
theorem rbtick_any (rt : Nat) (burst held spent full : Int) (w : World) (hr : 1 ≤ rt ∧ rt ≤ 1048576) (h2 : 1 ≤ burst ∧ burst ≤ 16777216) (h0 : 0 ≤ held ∧ held ≤ burst) (hf : -9223372036854775808 ≤ full ∧ full ≤ 9223372036854775807) :
    Calls Tryz.prog 56 #[.agg (bkc rt burst held spent full).toArray, .int .i64 1] w fun e w' => e = .returned (.agg (bkc rt burst (heldT rt burst held) spent (fullT rt burst held full)).toArray) ∧ Kept [] w w' := by
  have HM := hx (fun W => rmul1_any rt W hr.2)
  obtain ⟨mn, hmn⟩ : ∃ mn, min (rt : Int) (burst - held) = mn := ⟨_, rfl⟩
  have HA := hx (fun W => show Calls Tryz.prog 79 #[.int .i64 full, .int .i64 ((rt : Int) - mn)] W (fun e w' => e = .returned (.int .i64 (fullT rt burst held full)) ∧ Kept [] W w') from by
    have h := radd_any full ((rt : Int) - mn) W hf (by omega)
    rw [← hmn, fullT_eq] at h
    rw [← hmn]
    exact h)
  have HH := hx (show held + mn = heldT rt burst held from by rw [← hmn]; rfl)
  have hB1 := hx (Blk.new w (bkc rt burst held spent full) 37)
  go_enter Tryz.func56, Tryz.ntmps56
  go_upto_region 1 with fail
  generalize hw0 : World.alloc (World.alloc w _) _ = W0
  have B0 := hx (show Blk W0 w.heap.size (bkc rt burst held spent full) 37 from by rw [← hw0]; exact hB1.out.alloc _)
  have E0 := hx (show Blk W0 (w.heap.size + 1) (bkc 0 0 0 0 0) 37 from by
    rw [← hw0]
    have h := Blk.new (w.alloc (.cells (bkc rt burst held spent full).toArray 37)) (bkc 0 0 0 0 0) 37
    rw [World.size_alloc] at h
    exact h)
  have K0 := hx (show Kept [] w W0 from by rw [← hw0]; exact ((Kept.refl _ _).alloc _).alloc _)
  clear hw0 hB1
  have c0 := B0.out.cell (i := 0) rfl
  go_upto_region 4 with (go_at_call 78; refine (HM.out _).mono ?_; rintro e w1 ⟨rfl, hk1⟩; have K1 := hx (K0.out.trans0 hk1); have B1 := hx (hk1.blk B0.out (by simp)); have E1 := hx (hk1.blk E0.out (by simp)); clear hk1)
  clear c0
  have c1 := B1.out.cell (i := 1) rfl
  have c2 := B1.out.cell (i := 2) rfl
  have c4 := B1.out.cell (i := 4) rfl
  have hff := B1.out.free
  have hb1 : 0 ≤ mn ∧ mn ≤ (rt : Int) ∧ mn ≤ burst - held := by omega
  have HMN := hx hmn
  clear hmn
  go_cut [6] (fun s6 wx => s6 = .int .i64 mn ∧ wx = w1)
  case first =>
    go_wp2_with fail
    all_goals (go_meet; refine ⟨?_, rfl⟩; rw [← HMN.out]; first | rfl | (apply congrArg; omega))
  case rest =>
    obtain ⟨rfl, rfl⟩ := hcut
    go_upto_region 6 with fail
    generalize hw3 : World.setCell _ _ _ = w3
    have B3 := hx (show Blk w3 w.heap.size (bkc rt burst (held + mn) spent full) 37 from by rw [← hw3]; exact B1.out.set 2 _)
    have E3 := hx (show Blk w3 (w.heap.size + 1) (bkc 0 0 0 0 0) 37 from by rw [← hw3]; exact E1.out.set_ne (by simp) _)
    have K3 := hx (show Kept [] w w3 from by rw [← hw3]; exact K1.out.setCell (.inr (Nat.le_refl _)) _)
    clear hw3 c1 c2 c4 hff B1 E1 K1
    have c4 := B3.out.cell (i := 4) rfl
    have hff : ∀ W, Kept [] w3 W → ∀ i, W.frozen? ⟨w.heap.size, i, none⟩ = false := fun W hk i => (hk.blk B3.out (by simp)).free i
    have HFF := hx hff
    clear hff
    go_upto_region 7 with (go_at_call 79; refine (HA.out _).mono ?_; rintro e w4 ⟨rfl, hk4⟩; have K4 := hx hk4; have hf4 := HFF.out w4 hk4; have c44 := (hk4.blk B3.out (by simp)).cell (i := 4) rfl; clear hk4)
    generalize hw5 : World.setCell _ _ _ = w5
    have B5 := hx (show Blk w5 w.heap.size (bkc rt burst (heldT rt burst held) spent (fullT rt burst held full)) 37 from by
      rw [← hw5, ← HH.out]
      exact (K4.out.blk B3.out (by simp)).set 4 _)
    have E5 := hx (show Blk w5 (w.heap.size + 1) (bkc 0 0 0 0 0) 37 from by rw [← hw5]; exact (K4.out.blk E3.out (by simp)).set_ne (by simp) _)
    have K5 := hx (show Kept [] w w5 from by rw [← hw5]; exact (K3.out.trans0 K4.out).setCell (.inr (Nat.le_refl _)) _)
    clear hw5 hf4 c44 c4 B3 E3 K3 K4 HFF
    go_wp2_with (first
      | (refine load_blk rfl 37 (.tmp 2) rfl w.heap.size rfl 37 _ _ B5.out Tryz.underlying37 rfl infoBk ?_)
      | (refine store_blk rfl 37 (.tmp 4) (.tmp 33) rfl (w.heap.size + 1) rfl 37 _ (bkc rt burst (heldT rt burst held) spent (fullT rt burst held full)) rfl E5.out rfl infoBk (bkc_one _ _ _ _ _) ?_; intro w6 hb6 hk6))
    exact bodyPost_ret (ret_blk rfl _ (w.heap.size + 1) _ _ _ rfl hb6 Tryz.underlying37 rfl infoBk) rfl ⟨rfl, Kept.behind K5.out hk6 (by omega)⟩
end Go.Proofs.YtgdofgckjkmhjaaGreat.Mp
namespace Go.Proofs.YtgdofgckjkmhjaaGreat.Mp
open Go Go.RowKit
open Qd (dvl dv0 dvl_one infoDg step_of)
def dgC (l : List Qd.Dv) : List Value := l.flatMap dvl
theorem dgC_len (l : List Qd.Dv) : (dgC l).length = l.length * 11 := by
  induction l with
  | nil => rfl
  | cons y l ih =>
    have e : dgC (y :: l) = dvl y ++ dgC l := by simp [dgC]
    have hl : (dvl y).length = 11 := rfl
    rw [e, List.length_append, hl, ih, List.length_cons]
    omega
theorem dgC_app (a b : List Qd.Dv) : dgC (a ++ b) = dgC a ++ dgC b := by simp [dgC]
theorem infoDg3 : (Tryz.prog.info? 50).map (fun i => (i.zero, i.size, i.bytes)) = some (some (.agg (dvl dv0).toArray), 11, 88) := by kernel_rfl
theorem dgC_in : ∀ (l : List Qd.Dv) (i : Nat) y, l[i]? = some y → ∀ j u, (dvl y)[j]? = some u → (dgC l)[i * 11 + j]? = some u
  | [], i, y, h, _, _, _ => by simp at h
  | z :: l, 0, y, h, j, u, hu => by
    simp only [List.getElem?_cons_zero, Option.some.injEq] at h
    subst h
    have e : dgC (z :: l) = dvl z ++ dgC l := by simp [dgC]
    rw [e, List.getElem?_append_left (by have := (List.getElem?_eq_some_iff.1 hu).1; omega), show 0 * 11 + j = j by omega]
    exact hu
  | z :: l, i + 1, y, h, j, u, hu => by
    have e : dgC (z :: l) = dvl z ++ dgC l := by simp [dgC]
    have hl : (dvl z).length = 11 := rfl
    rw [e, List.getElem?_append_right (by rw [hl]; omega), hl, show (i + 1) * 11 + j - 11 = i * 11 + j by omega]
    exact dgC_in l i y (by simpa using h) j u hu
/-- Datagrams, as they lie. -/
structure DgR (w : World) (v : Value) (l : List Qd.Dv) : Prop where
  at_ : ∃ a c, v = .slice a l.length c ∧ l.length ≤ c ∧ c ≤ maxLen ∧ ∀ (i : Nat) y, l[i]? = some y → ∃ g, a = some ⟨g, 0, none⟩ ∧ w.rangeAt g (i * 11) (dvl y)
  ty : ∀ g o n c, v = .slice (some ⟨g, o, none⟩) n c → ∃ xs, Blk w g xs 50
theorem DgR.kept {w w' : World} {v : Value} {l : List Qd.Dv} (h : DgR w v l) (hk : Kept [] w w') : DgR w' v l := by
  obtain ⟨a, c, h1, h2, h3, h4⟩ := h.at_
  exact ⟨⟨a, c, h1, h2, h3, fun i y hy => by
    obtain ⟨g, h5, h6⟩ := h4 i y hy
    exact ⟨g, h5, hk.range h6 (by simp)⟩⟩, fun g o n c hv => by
    obtain ⟨xs, hx⟩ := h.ty g o n c hv
    exact ⟨xs, hk.blk hx (by simp)⟩⟩
/-- Blocks of other types are written. -/
theorem DgR.but {w w' : World} {v : Value} {l : List Qd.Dv} {bs : List Nat} (h : DgR w v l) (hk : Kept bs w w') (hn : ∀ g xs, Blk w g xs 50 → g ∉ bs) : DgR w' v l := by
  obtain ⟨a, c, h1, h2, h3, h4⟩ := h.at_
  exact ⟨⟨a, c, h1, h2, h3, fun i y hy => by
    obtain ⟨g, h5, h6⟩ := h4 i y hy
    obtain ⟨xs, h7⟩ := h.ty g 0 l.length c (by rw [h1, h5])
    exact ⟨g, h5, hk.range h6 (hn g xs h7)⟩⟩, fun g o n c hv => by
    obtain ⟨xs, h7⟩ := h.ty g o n c hv
    exact ⟨xs, hk.blk h7 (hn g xs h7)⟩⟩
theorem dgR_own {w : World} {base : Nat} {v : Value} {l : List Qd.Dv} (h : w.ownsRow base 50 11 v l.length (dgC l)) : DgR w v l := by
  rcases h.2 with ⟨h1, hn⟩ | ⟨g, cap, cur, rfl, _, hg, hn, hc, hs, ht⟩
  · have hl : l = [] := List.eq_nil_of_length_eq_zero hn
    subst hl
    exact ⟨⟨none, 0, h1, Nat.le_refl _, Nat.zero_le _, fun i y hy => by simp at hy⟩, fun g o n c hv => by rw [h1] at hv; simp at hv⟩
  · have hB : Blk w g cur.toList 50 := hg
    refine ⟨⟨_, cap, rfl, hn, hc, fun i y hy => ⟨g, rfl, fun j u hu => ?_⟩⟩, fun g2 o n c hv => by
      simp only [Value.slice.injEq, Option.some.injEq, Addr.mk.injEq, and_true] at hv
      obtain ⟨⟨rfl, _⟩, _⟩ := hv
      exact ⟨_, hB⟩⟩
    refine hB.cell ?_
    have hj : j < 11 := (List.getElem?_eq_some_iff.1 hu).1
    have hi := (List.getElem?_eq_some_iff.1 hy).1
    have h2 : (cur.toList.take (l.length * 11))[i * 11 + j]? = (dgC l)[i * 11 + j]? := by rw [ht]
    rw [List.getElem?_take_of_lt (by omega), dgC_in l i y hy j u hu] at h2
    exact h2
theorem dg_app {w : World} {ops : Array Oper} {rest : List Oper} {o : Oper} {a : Act} {Q : Exit → Act → World → Prop} (hgd : o.guard = none) (s x : Operand)
    (ho : o.op = .call { callee := .builtin .append, args := #[s, x], argTypes := #[93, 93] })
    (base : Nat) (v : Value) (l : List Qd.Dv) (hs : a.eval s = v) (hown : w.ownsRow base 50 11 v l.length (dgC l))
    (g : Nat) (y : Qd.Dv) (hx : a.eval x = .slice (some ⟨g, 0, none⟩) 1 1) (hb : Blk w g (dvl y) 50) (hroom : l.length ≤ 1000000) (hbase : base ≤ w.heap.size)
    (h : ∀ v' w', w'.ownsRow base 50 11 v' (l ++ [y]).length (dgC (l ++ [y])) → w.grownBy w' v.ownBlock → wpList Tryz.prog ops Q rest (a.put o.dst v') w') : wpList Tryz.prog ops Q (o :: rest) a w := by
  refine wpList_app hgd s x 93 ho base 50 (.agg (dvl dv0).toArray) 11 88 infoDg3 Tryz.underlying93 rfl (by omega) v l.length (dgC l) hs hown (some ⟨g, 0, none⟩) 1 1 (dvl y) hx rfl (by simp) (by omega) (newsP hb) (dvl_one _) (by unfold maxLen; omega) (by omega) hbase ?_
  intro v' w' h1 h2
  refine h v' w' ?_ h2
  rw [List.length_append, dgC_app]
  simpa [dgC] using h1
/-- Where a call of the document's stands: the sender's box, the result's, what has gone. -/
structure Tk (w W : World) (M : Ms) (a : Option Addr) (c base : Nat) (out : List Qd.Dv) (v : Value) : Prop where
  b : Blk W w.heap.size (rsd M a c) 40
  r : Blk W (w.heap.size + 1) (rsd ms00 none 0) 40
  row : W.ownsRow base 50 11 v out.length (dgC out)
  k : Kept [] w W
  hb : w.heap.size + 2 ≤ base
  hz : base ≤ W.heap.size
theorem Tk.kept {w W W2 : World} {M : Ms} {a : Option Addr} {c base : Nat} {out : List Qd.Dv} {v : Value} (h : Tk w W M a c base out v) (hk : Kept [] W W2) : Tk w W2 M a c base out v :=
  ⟨hk.blk h.b (by simp), hk.blk h.r (by simp), Qd.own_kept3 h.row (fun g cs hv hg => hk.block g (Array.getElem?_eq_some_iff.1 hg).1 (by simp)), h.k.trans0 hk, h.hb, Nat.le_trans h.hz hk.size⟩
theorem Tk.set {w W W2 : World} {M M2 : Ms} {a a2 : Option Addr} {c c2 base : Nat} {out : List Qd.Dv} {v : Value} (h : Tk w W M a c base out v) (hk : Kept [w.heap.size] W W2) (hb : Blk W2 w.heap.size (rsd M2 a2 c2) 40) : Tk w W2 M2 a2 c2 base out v :=
  ⟨hb, hk.blk h.r (by simp), Qd.own_kept3 h.row (fun g cs hv hg => hk.block g (Array.getElem?_eq_some_iff.1 hg).1 (by have h1 := (h.row.lt g hv).1; have h2 := h.hb; simp; omega)), h.k.trans hk (fun _ h => h) (fun g hg => by simp at hg; subst hg; exact .inr (Nat.le_refl _)), h.hb, Nat.le_trans h.hz hk.size⟩
theorem Tk.grow {w W W2 : World} {M : Ms} {a : Option Addr} {c base : Nat} {out out2 : List Qd.Dv} {v v2 : Value} (h : Tk w W M a c base out v) (hg : W.grownBy W2 v.ownBlock) (ho : W2.ownsRow base 50 11 v2 out2.length (dgC out2)) : Tk w W2 M a c base out2 v2 := by
  have hk : Kept v.ownBlock.toList W W2 := (Kept.refl _ _).grown hg (fun g e => .inl (by simp [e]))
  have hn : ∀ g, g ∈ v.ownBlock.toList → base ≤ g := fun g hg => (h.row.lt g (by simpa using hg)).1
  exact ⟨hk.blk h.b (fun hg => by have := hn _ hg; have := h.hb; omega), hk.blk h.r (fun hg => by have := hn _ hg; have := h.hb; omega), ho, h.k.trans hk (fun _ h => h) (fun g hg => .inr (by have := hn g hg; have := h.hb; omega)), h.hb, Nat.le_trans h.hz hk.size⟩
/-- The result's box is written at the end. -/
theorem Tk.dgR {w W W2 : World} {M : Ms} {a : Option Addr} {c base : Nat} {out : List Qd.Dv} {v : Value} (h : Tk w W M a c base out v) (hk : Kept [w.heap.size + 1] W W2) : DgR W2 v out :=
  dgR_own (Qd.own_kept3 h.row (fun g cs hv hg => hk.block g (Array.getElem?_eq_some_iff.1 hg).1 (by have h1 := (h.row.lt g hv).1; have h2 := h.hb; simp; omega)))
end Go.Proofs.YtgdofgckjkmhjaaGreat.Mp
namespace Go.Proofs.YtgdofgckjkmhjaaGreat
open Go Go.RowKit
theorem take_succ_eq {l m : List UInt8} {k : Nat} (h : k < l.length) (h2 : k < m.length) (ht : l.take k = m.take k) (he : l[k] = m[k]) : l.take (k + 1) = m.take (k + 1) := by
  rw [List.take_succ_eq_append_getElem h, List.take_succ_eq_append_getElem h2, ht, he]
theorem ne_of_get {l m : List UInt8} {k : Nat} (h : k < l.length) (h2 : k < m.length) (he : ¬ l[k] = m[k]) : ¬ l = m := by
  rintro rfl; exact he rfl
set_option maxHeartbeats 400000 in
theorem bsame_any (a b : Option Addr) (n m c d : Nat) (l r : List UInt8) (w : World) (hl : Bts w a n c l) (hr : Bts w b m d r) :
    Calls Tryz.prog 80 #[.slice a n c, .slice b m d] w fun e w' => e = .returned (.bool (decide (l = r))) ∧ ∃ k, w' = w.drewN k := by
  have hle := hl.hle
  have htop := hl.htop
  have hre := hr.hle
  have hrop := hr.htop
  obtain rfl := hl.hlen
  obtain rfl := hr.hlen
  unfold maxLen at htop hrop
  by_cases hlen : l.length = r.length
  · have h1 : ((l.length : Int) != (r.length : Int)) = false := by simp [hlen]
    have hlr := Lib.hid hlen
    clear hlen
    go_enter Tryz.func80, Tryz.ntmps80
    go_wp2
    go_loopw [5] (fun i wr => ∃ k : Nat, k ≤ l.length ∧ i = .int .i64 k ∧ l.take k = r.take k ∧ ∃ q, wr = w.drewN q) (fun i _ => l.length - (intOf i).toNat)
    case atStart => exact ⟨0, by omega, rfl, rfl, 0, rfl⟩
    case round =>
      obtain ⟨k, hk, rfl, heq, q, rfl⟩ := hrel
      have heq' := Lib.hid heq
      clear heq
      by_cases hk8 : k < l.length
      · have hk9 : k < r.length := by have := hlr.out; omega
        obtain ⟨b1, o1, rfl⟩ := hl.some (by omega)
        obtain ⟨b2, o2, rfl⟩ := hr.some (by omega)
        have hc := hl.at k hk8
        have hc2 := hr.at k hk9
        have hi1 : (k : Int) < (l.length : Int) := by omega
        have hi2 : (k : Int) < (r.length : Int) := by omega
        by_cases hv : l[k] = r[k]
        · have hv2 : ((l[k].toNat : Int) != (r[k].toNat : Int)) = false := by rw [hv]; simp
          have hvh := Lib.hid hv
          clear hv
          go_wp2
          go_quiet (fail)
          go_wp2
          go_roundw
          case rel => exact ⟨k + 1, by omega, by go_num, take_succ_eq hk8 hk9 heq'.out hvh.out, _, rfl⟩
          case measure => simp [intOf] <;> omega
        · have hv2 : ((l[k].toNat : Int) != (r[k].toNat : Int)) = true := by
            rw [bne_iff_ne]; intro h; exact hv (UInt8.toNat_inj.1 (by omega))
          have hvh := Lib.hid hv
          clear hv
          go_wp2
          go_quiet (fail)
          go_wp2
          go_ret
          exact ⟨by rw [decide_eq_false (ne_of_get hk8 hk9 hvh.out)]; rfl, _, World.drewN_drewN _ _ _⟩
      · obtain rfl : k = l.length := by omega
        go_wp2
        go_ret
        refine ⟨?_, q, rfl⟩
        have h1 := heq'.out
        rw [List.take_length, hlr.out, List.take_length] at h1
        rw [decide_eq_true h1]; rfl
  · have h1 : ((l.length : Int) != (r.length : Int)) = true := by rw [bne_iff_ne]; omega
    have hne : decide (l = r) = false := by
      apply decide_eq_false; rintro rfl; exact hlen rfl
    have hne' := Lib.hid hne
    clear hne hlen
    go_enter Tryz.func80, Tryz.ntmps80
    go_wp2
    go_ret
    exact ⟨by rw [hne'.out]; rfl, 0, rfl⟩

/-- Datagrams alike: fields and bytes. -/
theorem dgl_data_eq (d : Dg) : d = { kind := d.kind, sess := d.sess, seq := d.seq, path := d.path, tick := d.tick, a := d.a, b := d.b, k := d.k, m := d.m, index := d.index, data := d.data } := rfl
set_option maxRecDepth 100000 in
set_option maxHeartbeats 3200000 in
theorem dsame_eq (d : Dg) (p q : Option Addr) (c cq : Nat) (w : World) (hp : Bts w p d.data.length c d.data) (hq : Bts w q d.data.length cq d.data) :
    Calls Tryz.prog 60 #[.agg (dgl d p c).toArray, .agg (dgl d q cq).toArray] w fun e w' => e = .returned (.bool true) ∧ Kept [] w w' := by
  have hb1 := Blk.new w (dgl d p c) 50
  have hb2 := Blk.new (w.alloc (.cells (dgl d p c).toArray 50)) (dgl d q cq) 50
  have hb3 := hb1.alloc (.cells (dgl d q cq).toArray 50)
  have hs : (w.alloc (.cells (dgl d p c).toArray 50)).heap.size = w.heap.size + 1 := by simp
  rw [hs] at hb2
  have hk : Kept [] w ((w.alloc (.cells (dgl d p c).toArray 50)).alloc (.cells (dgl d q cq).toArray 50)) := ((Kept.refl _ _).alloc _).alloc _
  have c0 := hb3.cell (show (dgl d p c)[0]? = some (.int .i64 d.kind) from rfl)
  have f0 := hb2.cell (show (dgl d q cq)[0]? = some (.int .i64 d.kind) from rfl)
  have c1 := hb3.cell (show (dgl d p c)[1]? = some (.int .u32 d.sess) from rfl)
  have f1 := hb2.cell (show (dgl d q cq)[1]? = some (.int .u32 d.sess) from rfl)
  have c2 := hb3.cell (show (dgl d p c)[2]? = some (.int .u32 d.seq) from rfl)
  have f2 := hb2.cell (show (dgl d q cq)[2]? = some (.int .u32 d.seq) from rfl)
  have c3 := hb3.cell (show (dgl d p c)[3]? = some (.int .i64 d.path) from rfl)
  have f3 := hb2.cell (show (dgl d q cq)[3]? = some (.int .i64 d.path) from rfl)
  have c4 := hb3.cell (show (dgl d p c)[4]? = some (.int .u32 d.tick) from rfl)
  have f4 := hb2.cell (show (dgl d q cq)[4]? = some (.int .u32 d.tick) from rfl)
  have c5 := hb3.cell (show (dgl d p c)[5]? = some (.int .u32 d.a) from rfl)
  have f5 := hb2.cell (show (dgl d q cq)[5]? = some (.int .u32 d.a) from rfl)
  have c6 := hb3.cell (show (dgl d p c)[6]? = some (.int .u32 d.b) from rfl)
  have f6 := hb2.cell (show (dgl d q cq)[6]? = some (.int .u32 d.b) from rfl)
  have c7 := hb3.cell (show (dgl d p c)[7]? = some (.int .i64 d.k) from rfl)
  have f7 := hb2.cell (show (dgl d q cq)[7]? = some (.int .i64 d.k) from rfl)
  have c8 := hb3.cell (show (dgl d p c)[8]? = some (.int .i64 d.m) from rfl)
  have f8 := hb2.cell (show (dgl d q cq)[8]? = some (.int .i64 d.m) from rfl)
  have c9 := hb3.cell (show (dgl d p c)[9]? = some (.int .i64 d.index) from rfl)
  have f9 := hb2.cell (show (dgl d q cq)[9]? = some (.int .i64 d.index) from rfl)
  have c10 := hb3.cell (show (dgl d p c)[10]? = some (.slice p d.data.length c) from rfl)
  have f10 := hb2.cell (show (dgl d q cq)[10]? = some (.slice q d.data.length cq) from rfl)
  have hS := Lib.hid (bsame_any p q _ _ c cq d.data d.data _ (hp.kept hk) (hq.kept hk))
  have hk' := Lib.hid hk
  clear hb1 hb2 hb3 hs hp hq hk
  go_enter Tryz.func60, Tryz.ntmps60
  go_wp2_with fail
  refine hS.out.mono ?_
  rintro e w1 ⟨he, k, rfl⟩
  simp at he
  subst he
  go_wp2
  go_ret
  exact ⟨rfl, hk'.out.drewN _⟩
end Go.Proofs.YtgdofgckjkmhjaaGreat
namespace Go.Proofs.YtgdofgckjkmhjaaGreat.Mp
open Go Go.RowKit
open Qd (dvl dv0 dvl_one infoDg step_of take_by)
theorem outC_in : ∀ (l : List (Nat × Qd.Dv)) (i : Nat) y, l[i]? = some y → ∀ j u, (snt (y.1 : Int) y.2)[j]? = some u → (outC l)[i * 12 + j]? = some u
  | [], i, y, h, _, _, _ => by simp at h
  | z :: l, 0, y, h, j, u, hu => by
    simp only [List.getElem?_cons_zero, Option.some.injEq] at h
    subst h
    have e : outC (z :: l) = snt (z.1 : Int) z.2 ++ outC l := by simp [outC]
    rw [e, List.getElem?_append_left (by have := (List.getElem?_eq_some_iff.1 hu).1; omega), show 0 * 12 + j = j by omega]
    exact hu
  | z :: l, i + 1, y, h, j, u, hu => by
    have e : outC (z :: l) = snt (z.1 : Int) z.2 ++ outC l := by simp [outC]
    have hl : (snt (z.1 : Int) z.2).length = 12 := rfl
    rw [e, List.getElem?_append_right (by rw [hl]; omega), hl, show (i + 1) * 12 + j - 12 = i * 12 + j by omega]
    exact outC_in l i y (by simpa using h) j u hu
/-- What went, as it lies. -/
structure SnR (w : World) (v : Value) (l : List (Nat × Qd.Dv)) : Prop where
  at_ : ∃ a c, v = .slice a l.length c ∧ ∀ (i : Nat) y, l[i]? = some y → ∃ g, a = some ⟨g, 0, none⟩ ∧ w.rangeAt g (i * 12) (snt (y.1 : Int) y.2)
theorem SnR.kept {w w' : World} {v : Value} {l : List (Nat × Qd.Dv)} (h : SnR w v l) (hk : Kept [] w w') : SnR w' v l := by
  obtain ⟨a, c, h1, h4⟩ := h.at_
  exact ⟨a, c, h1, fun i y hy => by
    obtain ⟨g, h5, h6⟩ := h4 i y hy
    exact ⟨g, h5, hk.range h6 (by simp)⟩⟩
theorem snR_own {w : World} {base : Nat} {v : Value} {l : List (Nat × Qd.Dv)} (h : w.ownsRow base 85 12 v l.length (outC l)) : SnR w v l := by
  rcases h.2 with ⟨h1, hn⟩ | ⟨g, cap, cur, rfl, _, hg, hn, hc, hs, ht⟩
  · have hl : l = [] := List.eq_nil_of_length_eq_zero hn
    subst hl
    exact ⟨none, 0, h1, fun i y hy => by simp at hy⟩
  · refine ⟨_, cap, rfl, fun i y hy => ⟨g, rfl, fun j u hu => ?_⟩⟩
    have hB : Blk w g cur.toList 85 := hg
    refine hB.cell ?_
    have hj : j < 12 := (List.getElem?_eq_some_iff.1 hu).1
    have hi := (List.getElem?_eq_some_iff.1 hy).1
    have h2 : (cur.toList.take (l.length * 12))[i * 12 + j]? = (outC l)[i * 12 + j]? := by rw [ht]
    rw [List.getElem?_take_of_lt (by omega), outC_in l i y hy j u hu] at h2
    exact h2
/-- Alike. -/
structure LkO (w : World) (l : List (Nat × Qd.Dv)) (l2 : List Qd.Dv) : Prop where
  len : l.length = l2.length
  at_ : ∀ (i : Nat) y z, l[i]? = some y → l2[i]? = some z → y.2.d = z.d ∧ z.d.path = (y.1 : Int) ∧ Bts w y.2.p y.2.d.data.length y.2.c y.2.d.data ∧ Bts w z.p z.d.data.length z.c z.d.data
set_option linter.unusedSimpArgs false in
set_option maxRecDepth 100000 in
set_option maxHeartbeats 6400000 in
theorem lsame_m (u v : Value) (l : List (Nat × Qd.Dv)) (l2 : List Qd.Dv) (w : World) (h1 : SnR w u l) (h2 : DgR w v l2) (hL : LkO w l l2) (hn : l.length ≤ 1000) :
    Calls Tryz.prog 33 #[u, v] w fun e w' => e = .returned (.bool true) ∧ Kept [] w w' := by
  obtain ⟨a, c, rfl, hr1⟩ := h1.at_
  obtain ⟨b, d, rfl, _, _, hr2⟩ := h2.at_
  have HL := hx hL
  have hle := hL.len
  rw [← hle]
  have HR1 := hx hr1
  have HR2 := hx hr2
  have HN := hx hn
  have HLE := hx hle
  have hnl : (l.length : Int) ≤ 1000 := by omega
  clear h1 h2 hL hr1 hr2 hle hn
  go_enter Tryz.func33, Tryz.ntmps33
  go_wp2_with fail
  go_loopw [5] (fun s5 wr => ∃ i : Nat, s5 = .int .i64 (i : Int) ∧ i ≤ l.length ∧ Hx (Kept [] w wr)) (fun s5 _ => l.length - (intOf s5).toNat)
  case atStart => exact ⟨0, rfl, Nat.zero_le _, hx (Kept.refl _ _)⟩
  case round =>
    obtain ⟨i, rfl, hi, HK⟩ := hrel
    by_cases hlt : i < l.length
    · have hil : (i : Int) < (l.length : Int) := by omega
      have HIL := hx hlt
      obtain ⟨⟨yp, x⟩, hy⟩ : ∃ y, l[i]? = some y := ⟨_, List.getElem?_eq_getElem hlt⟩
      obtain ⟨z, hz⟩ : ∃ z, l2[i]? = some z := ⟨_, List.getElem?_eq_getElem (by have := HLE.out; omega)⟩
      obtain ⟨hd, hp, hb1, hb2⟩ := HL.out.at_ i _ _ hy hz
      simp only at hd hp hb1
      obtain ⟨go, rfl, hg1⟩ := HR1.out i _ hy
      obtain ⟨g2, rfl, hg2⟩ := HR2.out i _ hz
      have r0 := HK.out.range hg1 (by simp)
      have r2 : wr.rangeAt g2 (i * 11) (dvl z) := HK.out.range hg2 (by simp)
      have r1 : wr.rangeAt go (i * 12 + 1) (dvl x) := fun j u hu => by
        have h1 := r0 (j + 1) u (by simpa [snt] using hu)
        rw [show i * 12 + 1 + j = i * 12 + (j + 1) by omega]
        exact h1
      have c1 : wr.cell? ⟨go, i * 12, none⟩ = some (.int .i64 (yp : Int)) := r0 0 _ rfl
      have c2 : wr.cell? ⟨g2, i * 11 + 3, none⟩ = some (.int .i64 (yp : Int)) := r2 3 (.int .i64 (yp : Int)) (by rw [← hp]; rfl)
      have HC := hx (fun (W : World) (hk : Kept [] wr W) => show Calls Tryz.prog 60 #[.agg (dvl x).toArray, .agg (dvl z).toArray] W (fun e w' => e = .returned (.bool true) ∧ Kept [] W w') from by
        have h := dsame_eq z.d x.p z.p x.c z.c W (by rw [← hd]; exact (hb1.kept HK.out).kept hk) ((hb2.kept HK.out).kept hk)
        have e1 : dvl x = dgl z.d x.p x.c := by rw [← hd]
        rw [e1]
        exact h)
      have HSK := hx (fun (W : World) (hk : Kept [] wr W) => show (fun w3 => w3.cell? ⟨go, i * 12, none⟩ = some (.int .i64 (yp : Int)) ∧ w3.cell? ⟨g2, i * 11 + 3, none⟩ = some (.int .i64 (yp : Int)) ∧ w3.rangeAt go (i * 12 + 1) (dvl x) ∧ w3.rangeAt g2 (i * 11) (dvl z)) W from ⟨kept_cell' hk c1, kept_cell' hk c2, hk.range r1 (by simp), hk.range r2 (by simp)⟩)
      clear hy hz hd hp hb1 hb2 hg1 hg2 r0 r1 r2 c1 c2 hlt hi
      go_upto_region 6 with fail
      refine wp_region_held_drew (S := (fun w3 => w3.cell? ⟨go, i * 12, none⟩ = some (.int .i64 (yp : Int)) ∧ w3.cell? ⟨g2, i * 11 + 3, none⟩ = some (.int .i64 (yp : Int)) ∧ w3.rangeAt go (i * 12 + 1) (dvl x) ∧ w3.rangeAt g2 (i * 11) (dvl z))) (by kernel_rfl) (HSK.out _ (Kept.drew (Kept.refl [] _))) (fun hHeld => ?_)
      refine take_by 0 17 (v := ?_) rfl rfl (by kernel_rfl) (by kernel_rfl) (by kernel_rfl) (fun _ _ _ h => h) (Or.inl ⟨by rfl, ?_⟩) (by assumption) ?_
      rotate_left
      · (intro w hSw; (try dsimp only at hSw); go_simp; try with_reducible rfl)
      try simp only [List.setIfInBounds_toArray, List.set_cons_zero, List.set_cons_succ]
      refine take_by 1 18 (v := ?_) rfl rfl (by kernel_rfl) (by kernel_rfl) (by kernel_rfl) (fun _ _ _ h => h) (Or.inl ⟨by rfl, ?_⟩) (by assumption) ?_
      rotate_left
      · (intro w hSw; (try dsimp only at hSw); go_simp; try with_reducible rfl)
      try simp only [List.setIfInBounds_toArray, List.set_cons_zero, List.set_cons_succ]
      refine take_by 2 19 (v := ?_) rfl rfl (by kernel_rfl) (by kernel_rfl) (by kernel_rfl) (fun _ _ _ h => h) (Or.inl ⟨by rfl, ?_⟩) (by assumption) ?_
      rotate_left
      · (intro w hSw; (try dsimp only at hSw); go_simp; try with_reducible rfl)
      try simp only [List.setIfInBounds_toArray, List.set_cons_zero, List.set_cons_succ]
      refine take_by 3 20 (v := ?_) rfl rfl (by kernel_rfl) (by kernel_rfl) (by kernel_rfl) (fun _ _ _ h => h) (Or.inl ⟨by rfl, ?_⟩) (by assumption) ?_
      rotate_left
      · (intro w hSw; (try dsimp only at hSw); go_simp; try with_reducible rfl)
      try simp only [List.setIfInBounds_toArray, List.set_cons_zero, List.set_cons_succ]
      refine take_by 4 21 (v := ?_) rfl rfl (by kernel_rfl) (by kernel_rfl) (by kernel_rfl) (fun _ _ _ h => h) (Or.inl ⟨by rfl, ?_⟩) (by assumption) ?_
      rotate_left
      · (intro w hSw; (try dsimp only at hSw); go_simp; try with_reducible rfl)
      try simp only [List.setIfInBounds_toArray, List.set_cons_zero, List.set_cons_succ]
      refine take_by 5 22 (v := ?_) rfl rfl (by kernel_rfl) (by kernel_rfl) (by kernel_rfl) (fun _ _ _ h => h) (Or.inl ⟨by rfl, ?_⟩) (by assumption) ?_
      rotate_left
      · (intro w hSw; (try dsimp only at hSw); go_simp; try with_reducible rfl)
      try simp only [List.setIfInBounds_toArray, List.set_cons_zero, List.set_cons_succ]
      refine take_by 6 23 (v := ?_) rfl rfl (by kernel_rfl) (by kernel_rfl) (by kernel_rfl) (fun _ _ _ h => h) (Or.inl ⟨by rfl, ?_⟩) (by assumption) ?_
      rotate_left
      · (intro w hSw; (try dsimp only at hSw); go_simp; try with_reducible rfl)
      try simp only [List.setIfInBounds_toArray, List.set_cons_zero, List.set_cons_succ]
      refine take_by 7 24 (v := ?_) rfl rfl (by kernel_rfl) (by kernel_rfl) (by kernel_rfl) (fun _ _ _ h => h) (Or.inl ⟨by rfl, ?_⟩) (by assumption) ?_
      rotate_left
      · (intro w hSw; (try dsimp only at hSw); go_simp; try with_reducible rfl)
      try simp only [List.setIfInBounds_toArray, List.set_cons_zero, List.set_cons_succ]
      refine take_by 8 25 (v := ?_) rfl rfl (by kernel_rfl) (by kernel_rfl) (by kernel_rfl) (fun _ _ _ h => h) (Or.inl ⟨by rfl, ?_⟩) (by assumption) ?_
      rotate_left
      · (intro w hSw; (try dsimp only at hSw); go_simp; try with_reducible rfl)
      try simp only [List.setIfInBounds_toArray, List.set_cons_zero, List.set_cons_succ]
      refine take_by 9 26 (v := ?_) rfl rfl (by kernel_rfl) (by kernel_rfl) (by kernel_rfl) (fun _ _ _ h => h) (Or.inl ⟨by rfl, ?_⟩) (by assumption) ?_
      rotate_left
      · (intro w hSw; (try dsimp only at hSw); go_simp; try with_reducible rfl)
      try simp only [List.setIfInBounds_toArray, List.set_cons_zero, List.set_cons_succ]
      refine take_by 10 27 (v := ?_) rfl rfl (by kernel_rfl) (by kernel_rfl) (by kernel_rfl) (fun _ _ _ h => h) (Or.inl ⟨by rfl, ?_⟩) (by assumption) ?_
      rotate_left
      · (intro w hSw; (try dsimp only at hSw); go_simp; try with_reducible rfl)
      try simp only [List.setIfInBounds_toArray, List.set_cons_zero, List.set_cons_succ]
      refine take_by 11 28 (v := ?_) rfl rfl (by kernel_rfl) (by kernel_rfl) (by kernel_rfl) (fun _ _ _ h => h) (Or.inl ⟨by rfl, ?_⟩) (by assumption) ?_
      rotate_left
      · (intro w hSw; (try dsimp only at hSw); go_simp; try with_reducible rfl)
      try simp only [List.setIfInBounds_toArray, List.set_cons_zero, List.set_cons_succ]
      refine take_by 12 29 (v := ?_) rfl rfl (by kernel_rfl) (by kernel_rfl) (by kernel_rfl) (fun _ _ _ h => h) (Or.inl ⟨by rfl, ?_⟩) (by assumption) ?_
      rotate_left
      · (intro w hSw; (try dsimp only at hSw); go_simp; try with_reducible rfl)
      try simp only [List.setIfInBounds_toArray, List.set_cons_zero, List.set_cons_succ]
      refine take_by 13 30 (v := ?_) rfl rfl (by kernel_rfl) (by kernel_rfl) (by kernel_rfl) (fun _ _ _ h => h) (Or.inl ⟨by rfl, ?_⟩) (by assumption) ?_
      rotate_left
      · (intro w hSw; (try dsimp only at hSw); go_simp; try with_reducible rfl)
      try simp only [List.setIfInBounds_toArray, List.set_cons_zero, List.set_cons_succ]
      refine take_by 14 31 (v := ?_) rfl rfl (by kernel_rfl) (by kernel_rfl) (by kernel_rfl) (fun _ _ _ h => h) (Or.inl ⟨by rfl, ?_⟩) (by assumption) ?_
      rotate_left
      · (intro w hSw; (try dsimp only at hSw); go_simp; try with_reducible rfl)
      try simp only [List.setIfInBounds_toArray, List.set_cons_zero, List.set_cons_succ]
      refine take_by 15 32 (v := ?_) rfl rfl (by kernel_rfl) (by kernel_rfl) (by kernel_rfl) (fun _ _ _ h => h) (Or.inl ⟨by rfl, ?_⟩) (by assumption) ?_
      rotate_left
      · (intro w hSw; (try dsimp only at hSw); go_simp; try with_reducible rfl)
      try simp only [List.setIfInBounds_toArray, List.set_cons_zero, List.set_cons_succ]
      refine take_by 16 33 (v := .agg (dvl x).toArray) rfl rfl (by kernel_rfl) (by kernel_rfl) (by kernel_rfl) (fun _ _ _ h => h) (yieldsIf_load_mid (by rfl) 50 (.tmp 32) rfl go (i * 12 + 1) rfl (dvl x) _ (fun _ hS => hS.2.2.1) Tryz.underlying50 rfl (by kernel_rfl)) (by assumption) ?_
      try simp only [List.setIfInBounds_toArray, List.set_cons_zero, List.set_cons_succ]
      refine take_by 17 34 (v := ?_) rfl rfl (by kernel_rfl) (by kernel_rfl) (by kernel_rfl) (fun _ _ _ h => h) (Or.inl ⟨by rfl, ?_⟩) (by assumption) ?_
      rotate_left
      · (intro w hSw; (try dsimp only at hSw); go_simp; try with_reducible rfl)
      try simp only [List.setIfInBounds_toArray, List.set_cons_zero, List.set_cons_succ]
      refine take_by 18 35 (v := ?_) rfl rfl (by kernel_rfl) (by kernel_rfl) (by kernel_rfl) (fun _ _ _ h => h) (Or.inl ⟨by rfl, ?_⟩) (by assumption) ?_
      rotate_left
      · (intro w hSw; (try dsimp only at hSw); go_simp; try with_reducible rfl)
      try simp only [List.setIfInBounds_toArray, List.set_cons_zero, List.set_cons_succ]
      refine take_by 19 36 (v := ?_) rfl rfl (by kernel_rfl) (by kernel_rfl) (by kernel_rfl) (fun _ _ _ h => h) (Or.inl ⟨by rfl, ?_⟩) (by assumption) ?_
      rotate_left
      · (intro w hSw; (try dsimp only at hSw); go_simp; try with_reducible rfl)
      try simp only [List.setIfInBounds_toArray, List.set_cons_zero, List.set_cons_succ]
      refine take_by 20 37 (v := .agg (dvl z).toArray) rfl rfl (by kernel_rfl) (by kernel_rfl) (by kernel_rfl) (fun _ _ _ h => h) (yieldsIf_load_mid (by rfl) 50 (.tmp 36) rfl g2 (i * 11) rfl (dvl z) _ (fun _ hS => hS.2.2.2) Tryz.underlying50 rfl (by kernel_rfl)) (by assumption) ?_
      try simp only [List.setIfInBounds_toArray, List.set_cons_zero, List.set_cons_succ]
      refine wpAnyH_ready (rs := [21]) (by kernel_rfl) (by simp) ?_
      refine AllReadyH.cons rfl (fun K hK => ?_) AllReadyH.nil
      go_simp
      (go_at_call 60; refine (HC.out _ (Kept.drew (Kept.refl [] _))).mono ?_; rintro e w4 ⟨rfl, hk4⟩; have K4 := hx (show Kept [] wr w4 from (Kept.drew (Kept.refl [] _)).trans0 hk4); clear hk4)
      refine hK.out _ _ (HSK.out _ K4.out) (fun hHeld => ?_)
      clear hK K
      try simp only [Act.put, List.setIfInBounds_toArray, List.set_cons_zero, List.set_cons_succ]
      refine take_by 22 39 (v := ?_) rfl rfl (by kernel_rfl) (by kernel_rfl) (by kernel_rfl) (fun _ _ _ h => h) (Or.inl ⟨by rfl, ?_⟩) (by assumption) ?_
      rotate_left
      · (intro w hSw; (try dsimp only at hSw); go_simp; try with_reducible rfl)
      try simp only [List.setIfInBounds_toArray, List.set_cons_zero, List.set_cons_succ]
      refine take_by 23 40 (v := ?_) rfl rfl (by kernel_rfl) (by kernel_rfl) (by kernel_rfl) (fun _ _ _ h => h) (Or.inl ⟨by rfl, ?_⟩) (by assumption) ?_
      rotate_left
      · (intro w hSw; (try dsimp only at hSw); go_simp; try with_reducible rfl)
      try simp only [List.setIfInBounds_toArray, List.set_cons_zero, List.set_cons_succ]
      refine wpAnyH_done (by kernel_rfl) ?_ _
      go_wp2_with fail
      go_roundw
      case rel => exact ⟨i + 1, by push_cast; rfl, by have := HIL.out; omega, hx (HK.out.trans0 K4.out)⟩
      case measure =>
        simp only [intOf]
        have := HIL.out
        omega
    · obtain rfl : i = l.length := by omega
      clear hlt hi
      go_wp2_with fail
      go_ret
      exact ⟨rfl, HK.out⟩
end Go.Proofs.YtgdofgckjkmhjaaGreat.Mp
