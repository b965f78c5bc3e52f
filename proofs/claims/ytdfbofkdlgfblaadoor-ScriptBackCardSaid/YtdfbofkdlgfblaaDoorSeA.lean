/- headLine of the program. -/
import Derived.Test.YtdfbofkdlgfblaaDoorSdB
import Derived.Deep.RegionHeld3
namespace Go.Proofs.YtdfbofkdlgfblaaDoor
open Go Go.RowKit
theorem take_by {P : Program} {md : Region.Mode} {ops : Array Oper} {Q : Exit → Act → World → Prop} {S : World → Prop} (i d : Nat) {oi : Oper} {v : Value} {fuel : Nat} {listed : Array Bool} {a : Act} {w : World} (hi : ops[i]? = some oi) (hd : oi.dst = some d)
    (hs : Region.noSelect ops = true) (hf : Region.free md ops listed i = true) (hr : (Region.ready md ops listed).contains i = true)
    (hQ : ∀ c a w, Q (.panic c) (a.put oi.dst v) w → Q (.panic c) a w) (hy : YieldsIf P ops S oi v a) (hS : S w)
    (h : wpAnyH P md ops Q S fuel (listed.setIfInBounds i true) { tmps := a.tmps.setIfInBounds d v, defers := a.defers } w) : wpAnyH P md ops Q S (fuel + 1) listed a w := by
  refine wpAnyH_take hi hs hf hr hQ hy hS ?_
  rw [hd]
  exact h
def smallI (n : Int) : Bool := decide (0 ≤ n) && decide (n < 4294967296)
def headC (i : Nat) : Nat := if i = 0 then 3 else if i = 1 then 3 else 2
def okN (i : Nat) (ns : List Int) : Bool := if i = 0 then smallI (ns.getD 0 0) else if i = 3 then smallI (ns.getD 0 0) && smallI (ns.getD 1 0) else true
def hlW (i : Nat) : List (List UInt8) → Option (List Int)
  | [] => none
  | w :: r => if w = headW i then (match (if r.length = headC i then readAll r else none) with | some ns => if okN i ns = true then some ns else none | none => none) else none
/-- The numbers of one of the first lines. -/
def hlL (i : Nat) (l : List UInt8) : Option (List Int) := hlW i (splitL l)
set_option maxRecDepth 100000 in
set_option maxHeartbeats 3200000 in
theorem small_any (n : Int) (w : World) : Calls Tryd.prog 51 #[.int .i64 n] w fun e w' => e = .returned (.bool (smallI n)) ∧ w' = w := by
  unfold smallI
  by_cases h0 : 0 ≤ n
  · by_cases h1 : n < 4294967296
    · have e1 : (decide (0 ≤ n) && decide (n < 4294967296)) = true := by simp [h0, h1]
      rw [e1]
      clear e1
      go_enter Tryd.func51, Tryd.ntmps51
      go_wp2
      go_ret
      exact ⟨rfl, rfl⟩
    · have e1 : (decide (0 ≤ n) && decide (n < 4294967296)) = false := by simp [h1]
      rw [e1]
      clear e1
      go_enter Tryd.func51, Tryd.ntmps51
      go_wp2
      go_ret
      exact ⟨rfl, rfl⟩
  · have e1 : (decide (0 ≤ n) && decide (n < 4294967296)) = false := by simp [h0]
    rw [e1]
    clear e1
    go_enter Tryd.func51, Tryd.ntmps51
    go_wp2
    go_ret
    exact ⟨rfl, rfl⟩
set_option maxRecDepth 100000 in
set_option maxHeartbeats 3200000 in
theorem counts_any (w : World) :
    Calls Tryd.prog 50 #[] w fun e w' => ∃ g, e = .returned (.slice (some ⟨g, 0, none⟩) 4 4) ∧ Blk w' g (ints [3, 3, 2, 2]) 3 ∧ Kept [] w w' := by
  go_enter Tryd.func50, Tryd.ntmps50
  go_wp2_with fail
  go_ret
  exact ⟨_, rfl, Blk.new w _ _, (Kept.refl _ _).alloc _⟩
theorem own_low {w : World} {b0 b1 : Nat} {e : TypeId} {v : Value} {n : Nat} {xs : List Value} (h : w.ownsRow b1 e 1 v n xs) (hb : b0 ≤ b1) : w.ownsRow b0 e 1 v n xs := by
  refine ⟨h.1, ?_⟩
  rcases h.2 with h0 | ⟨g, cap, cur, hv, hg, h3, h4⟩
  · exact .inl h0
  · exact .inr ⟨g, cap, cur, hv, Nat.le_trans hb hg, h3, h4⟩
/-- A row of numbers: its cells. -/
theorem own_cells {w : World} {b0 : Nat} {v : Value} {ns : List Int} (h : w.ownsRow b0 3 1 v ns.length (ints ns)) (hn : ns ≠ []) :
    ∃ g cap, v = .slice (some ⟨g, 0, none⟩) ns.length cap ∧ b0 ≤ g ∧ g < w.heap.size ∧ ∀ (i : Nat) n, ns[i]? = some n → w.cell? ⟨g, i, none⟩ = some (.int .i64 n) := by
  obtain ⟨g, cap, cur, rfl, hb, hB, ht, _⟩ := own_blk1 h (List.length_pos_iff.2 hn)
  refine ⟨g, cap, rfl, hb, hB.lt, fun i n hi => hB.cell ?_⟩
  have hl : i < ns.length := (List.getElem?_eq_some_iff.1 hi).1
  have h2 : (cur.take ns.length)[i]? = some (.int .i64 n) := by rw [ht]; exact ints_get hi
  rwa [List.getElem?_take_of_lt hl] at h2
set_option maxRecDepth 100000 in
set_option maxHeartbeats 6400000 in
theorem headline_any (i : Nat) (hi : i < 4) (l : List UInt8) (m : Int) (w : World) (hl : l.length < 4294967281) (hm : w.cell? ⟨0, 0, none⟩ = some (.int .i64 m)) :
    Calls Tryd.prog 41 #[txt l, .int .i64 (i : Int)] w fun e w' => NumQ (hlL i l) w w' e := by
  have HS := hx (splits_any l m w hl hm)
  have HC := hx (fun w1 => counts_any w1)
  have HH := hx (fun w1 => pheads_any w1)
  have HM := hx (fun n w1 => small_any n w1)
  unfold hlL
  clear hm hl
  obtain ⟨w0, ws, hsp⟩ : ∃ w0 ws, splitL l = w0 :: ws := by
    cases h : splitL l with
    | nil => exact absurd h (splitL_ne l)
    | cons a b => exact ⟨a, b, rfl⟩
  rw [hsp] at HS ⊢
  rw [hlW]
  clear hsp
  have hcase : i = 0 ∨ i = 1 ∨ i = 2 ∨ i = 3 := by omega
  clear hi
  rcases hcase with rfl | rfl | rfl | rfl
  · show Calls _ _ #[txt l, .int .i64 0] w _
    by_cases hw : w0 = headW 0
    · rw [if_pos hw]
      have heq : (w0 == [103, 97, 109, 101]) = true := by simp [hw, headW]
      clear hw
      have HNUM := hx (fun (bw : Nat) w1 (hb : Blk w1 bw (txts (w0 :: ws)) 9) => numbers_any bw w0 ws 3 w1 hb (by omega))
      have hcn : headC 0 = 3 := rfl
      rw [hcn]
      clear hcn
      cases ho : (if ws.length = 3 then readAll ws else none) with
      | none =>
        rw [ho] at HNUM
        clear ho
        go_enter Tryd.func41, Tryd.ntmps41
        go_upto_region 2 with (go_at_call 30; refine HS.out.mono ?_; rintro e w1 ⟨bw, rfl, hbw, hb1, hk1⟩; have HB1 := hx hb1; have HK1 := hx hk1; clear hb1 hk1)
        have HSK := hx (fun (w3 : World) (hk : Kept [] w1 w3) => show (fun w3 : World => w3.cell? ⟨bw, 0, none⟩ = some (txt w0)) w3 from (hk.blk HB1.out (by simp)).cell (i := 0) rfl)
        clear HS
        refine wp_region_held_drew (S := (fun w3 => w3.cell? ⟨bw, 0, none⟩ = some (txt w0))) (by kernel_rfl) (HSK.out _ ((Kept.refl [] w1).drew)) (fun hHeld => ?_)
        refine take_by 0 11 (v := ?_) rfl rfl (by kernel_rfl) (by kernel_rfl) (by kernel_rfl) (fun _ _ _ h => h) (Or.inl ⟨by rfl, ?_⟩) (by assumption) ?_
        rotate_left
        · (intro w hSw; (try dsimp only at hSw); go_simp; try with_reducible rfl)
        try simp only [List.setIfInBounds_toArray, List.set_cons_zero, List.set_cons_succ]
        refine take_by 1 12 (v := ?_) rfl rfl (by kernel_rfl) (by kernel_rfl) (by kernel_rfl) (fun _ _ _ h => h) (Or.inl ⟨by rfl, ?_⟩) (by assumption) ?_
        rotate_left
        · (intro w hSw; (try dsimp only at hSw); go_simp; try with_reducible rfl)
        try simp only [List.setIfInBounds_toArray, List.set_cons_zero, List.set_cons_succ]
        refine take_by 2 13 (v := ?_) rfl rfl (by kernel_rfl) (by kernel_rfl) (by kernel_rfl) (fun _ _ _ h => h) (Or.inl ⟨by rfl, ?_⟩) (by assumption) ?_
        rotate_left
        · (intro w hSw; (try dsimp only at hSw); go_simp; try with_reducible rfl)
        try simp only [List.setIfInBounds_toArray, List.set_cons_zero, List.set_cons_succ]
        refine take_by 4 15 (v := ?_) rfl rfl (by kernel_rfl) (by kernel_rfl) (by kernel_rfl) (fun _ _ _ h => h) (Or.inl ⟨by rfl, ?_⟩) (by assumption) ?_
        rotate_left
        · (intro w hSw; (try dsimp only at hSw); go_simp; try with_reducible rfl)
        try simp only [List.setIfInBounds_toArray, List.set_cons_zero, List.set_cons_succ]
        refine wpAnyH_ready (rs := [3]) (by kernel_rfl) (by simp) ?_
        refine AllReadyH.cons rfl (fun K hK => ?_) AllReadyH.nil
        go_simp
        (go_at_call 36; refine (HH.out _).mono ?_; rintro e w4 ⟨g, rfl, hb4, hk4⟩; have HK4 := hx (show Kept [] w1 w4 from (Kept.drew (Kept.refl [] w1)).trans0 hk4); have c4 := hb4.cell (i := 0) rfl; have hS4 := HSK.out _ HK4.out)
        refine hK.out _ _ (hS4) (fun hHeld => ?_)
        clear hK K
        try simp only [Act.put, List.setIfInBounds_toArray, List.set_cons_zero, List.set_cons_succ]
        refine take_by 5 16 (v := ?_) rfl rfl (by kernel_rfl) (by kernel_rfl) (by kernel_rfl) (fun _ _ _ h => h) (Or.inl ⟨by rfl, ?_⟩) (by assumption) ?_
        rotate_left
        · (intro w hSw; (try dsimp only at hSw); go_simp; try with_reducible rfl)
        try simp only [List.setIfInBounds_toArray, List.set_cons_zero, List.set_cons_succ]
        refine wpAnyH_ready (rs := [6]) (by kernel_rfl) (by simp) ?_
        refine AllReadyH.cons rfl (fun K hK => ?_) AllReadyH.nil
        go_simp
        refine hK.out _ _ (hS4) (fun hHeld => ?_)
        clear hK K
        try simp only [Act.put, List.setIfInBounds_toArray, List.set_cons_zero, List.set_cons_succ]
        refine take_by 7 18 (v := ?_) rfl rfl (by kernel_rfl) (by kernel_rfl) (by kernel_rfl) (fun _ _ _ h => h) (Or.inl ⟨by rfl, ?_⟩) (by assumption) ?_
        rotate_left
        · (intro w hSw; (try dsimp only at hSw); go_simp; try with_reducible rfl)
        try simp only [List.setIfInBounds_toArray, List.set_cons_zero, List.set_cons_succ]
        refine wpAnyH_done (by kernel_rfl) ?_ _
        clear HSK hS4 c4 HH
        go_wp2_with (first
          | (go_at_call 50; refine (HC.out _).mono ?_; rintro e w5 ⟨g5, rfl, hb5, hk5⟩; have HK5 := hx (show Kept [] w1 w5 from HK4.out.trans0 hk5); have c5 := hb5.cell (i := 0) rfl; clear hb5 hk5)
          | (go_at_call 31; refine (HNUM.out bw _ (HK5.out.blk HB1.out (by simp))).mono ?_; rintro e w6 h6; obtain ⟨hk6, rfl⟩ := h6; have HK6 := hx (HK1.out.trans0 (HK5.out.trans0 hk6)); clear hk6))
        go_ret2
        exact ⟨HK6.out, rfl⟩
      | some ns =>
        rw [ho] at HNUM
        have hnl : ns.length = 3 := by
          by_cases hh : ws.length = 3
          · rw [if_pos hh] at ho
            rw [(readAll_some ho).1, hh]
          · rw [if_neg hh] at ho
            simp at ho
        clear ho
        obtain ⟨a, b, c, rfl⟩ : ∃ a b c, ns = [a, b, c] := by
          match ns, hnl with
          | [a, b, c], _ => exact ⟨a, b, c, rfl⟩
        clear hnl
        cases hs : smallI a with
        | true =>
          have HOK := hx (show okN 0 [a, b, c] = true by show smallI a = true; rw [hs])
          dsimp only
          rw [if_pos HOK.out]
          clear HOK
          go_enter Tryd.func41, Tryd.ntmps41
          go_upto_region 2 with (go_at_call 30; refine HS.out.mono ?_; rintro e w1 ⟨bw, rfl, hbw, hb1, hk1⟩; have HB1 := hx hb1; have HK1 := hx hk1; clear hb1 hk1)
          have HSK := hx (fun (w3 : World) (hk : Kept [] w1 w3) => show (fun w3 : World => w3.cell? ⟨bw, 0, none⟩ = some (txt w0)) w3 from (hk.blk HB1.out (by simp)).cell (i := 0) rfl)
          clear HS
          refine wp_region_held_drew (S := (fun w3 => w3.cell? ⟨bw, 0, none⟩ = some (txt w0))) (by kernel_rfl) (HSK.out _ ((Kept.refl [] w1).drew)) (fun hHeld => ?_)
          refine take_by 0 11 (v := ?_) rfl rfl (by kernel_rfl) (by kernel_rfl) (by kernel_rfl) (fun _ _ _ h => h) (Or.inl ⟨by rfl, ?_⟩) (by assumption) ?_
          rotate_left
          · (intro w hSw; (try dsimp only at hSw); go_simp; try with_reducible rfl)
          try simp only [List.setIfInBounds_toArray, List.set_cons_zero, List.set_cons_succ]
          refine take_by 1 12 (v := ?_) rfl rfl (by kernel_rfl) (by kernel_rfl) (by kernel_rfl) (fun _ _ _ h => h) (Or.inl ⟨by rfl, ?_⟩) (by assumption) ?_
          rotate_left
          · (intro w hSw; (try dsimp only at hSw); go_simp; try with_reducible rfl)
          try simp only [List.setIfInBounds_toArray, List.set_cons_zero, List.set_cons_succ]
          refine take_by 2 13 (v := ?_) rfl rfl (by kernel_rfl) (by kernel_rfl) (by kernel_rfl) (fun _ _ _ h => h) (Or.inl ⟨by rfl, ?_⟩) (by assumption) ?_
          rotate_left
          · (intro w hSw; (try dsimp only at hSw); go_simp; try with_reducible rfl)
          try simp only [List.setIfInBounds_toArray, List.set_cons_zero, List.set_cons_succ]
          refine take_by 4 15 (v := ?_) rfl rfl (by kernel_rfl) (by kernel_rfl) (by kernel_rfl) (fun _ _ _ h => h) (Or.inl ⟨by rfl, ?_⟩) (by assumption) ?_
          rotate_left
          · (intro w hSw; (try dsimp only at hSw); go_simp; try with_reducible rfl)
          try simp only [List.setIfInBounds_toArray, List.set_cons_zero, List.set_cons_succ]
          refine wpAnyH_ready (rs := [3]) (by kernel_rfl) (by simp) ?_
          refine AllReadyH.cons rfl (fun K hK => ?_) AllReadyH.nil
          go_simp
          (go_at_call 36; refine (HH.out _).mono ?_; rintro e w4 ⟨g, rfl, hb4, hk4⟩; have HK4 := hx (show Kept [] w1 w4 from (Kept.drew (Kept.refl [] w1)).trans0 hk4); have c4 := hb4.cell (i := 0) rfl; have hS4 := HSK.out _ HK4.out)
          refine hK.out _ _ (hS4) (fun hHeld => ?_)
          clear hK K
          try simp only [Act.put, List.setIfInBounds_toArray, List.set_cons_zero, List.set_cons_succ]
          refine take_by 5 16 (v := ?_) rfl rfl (by kernel_rfl) (by kernel_rfl) (by kernel_rfl) (fun _ _ _ h => h) (Or.inl ⟨by rfl, ?_⟩) (by assumption) ?_
          rotate_left
          · (intro w hSw; (try dsimp only at hSw); go_simp; try with_reducible rfl)
          try simp only [List.setIfInBounds_toArray, List.set_cons_zero, List.set_cons_succ]
          refine wpAnyH_ready (rs := [6]) (by kernel_rfl) (by simp) ?_
          refine AllReadyH.cons rfl (fun K hK => ?_) AllReadyH.nil
          go_simp
          refine hK.out _ _ (hS4) (fun hHeld => ?_)
          clear hK K
          try simp only [Act.put, List.setIfInBounds_toArray, List.set_cons_zero, List.set_cons_succ]
          refine take_by 7 18 (v := ?_) rfl rfl (by kernel_rfl) (by kernel_rfl) (by kernel_rfl) (fun _ _ _ h => h) (Or.inl ⟨by rfl, ?_⟩) (by assumption) ?_
          rotate_left
          · (intro w hSw; (try dsimp only at hSw); go_simp; try with_reducible rfl)
          try simp only [List.setIfInBounds_toArray, List.set_cons_zero, List.set_cons_succ]
          refine wpAnyH_done (by kernel_rfl) ?_ _
          clear HSK hS4 c4 HH
          go_wp2_with (first
            | (go_at_call 50; refine (HC.out _).mono ?_; rintro e w5 ⟨g5, rfl, hb5, hk5⟩; have HK5 := hx (show Kept [] w1 w5 from HK4.out.trans0 hk5); have c5 := hb5.cell (i := 0) rfl; clear hb5 hk5)
            | (go_at_call 31; refine (HNUM.out bw _ (HK5.out.blk HB1.out (by simp))).mono ?_; rintro e w6 h6; obtain ⟨hk6, u6, rfl, ho6⟩ := h6; have HO := hx (own_low ho6 (Nat.le_trans HK1.out.size HK5.out.size)); obtain ⟨g6, cap6, rfl, hg6, _, hc6⟩ := own_cells ho6 (by simp); have d0 := hc6 0 a rfl; have d1 := hc6 1 b rfl; have HK6 := hx (HK1.out.trans0 (HK5.out.trans0 hk6)); clear hk6 ho6 hc6 hg6)
            | (go_at_call 51; refine (HM.out _ _).mono ?_; rintro e w7 ⟨rfl, rfl⟩))
          go_ret2
          exact ⟨HK6.out, _, rfl, HO.out⟩
        | false =>
          have HOK := hx (show ¬ okN 0 [a, b, c] = true by show ¬ smallI a = true; rw [hs]; simp)
          dsimp only
          rw [if_neg HOK.out]
          clear HOK
          go_enter Tryd.func41, Tryd.ntmps41
          go_upto_region 2 with (go_at_call 30; refine HS.out.mono ?_; rintro e w1 ⟨bw, rfl, hbw, hb1, hk1⟩; have HB1 := hx hb1; have HK1 := hx hk1; clear hb1 hk1)
          have HSK := hx (fun (w3 : World) (hk : Kept [] w1 w3) => show (fun w3 : World => w3.cell? ⟨bw, 0, none⟩ = some (txt w0)) w3 from (hk.blk HB1.out (by simp)).cell (i := 0) rfl)
          clear HS
          refine wp_region_held_drew (S := (fun w3 => w3.cell? ⟨bw, 0, none⟩ = some (txt w0))) (by kernel_rfl) (HSK.out _ ((Kept.refl [] w1).drew)) (fun hHeld => ?_)
          refine take_by 0 11 (v := ?_) rfl rfl (by kernel_rfl) (by kernel_rfl) (by kernel_rfl) (fun _ _ _ h => h) (Or.inl ⟨by rfl, ?_⟩) (by assumption) ?_
          rotate_left
          · (intro w hSw; (try dsimp only at hSw); go_simp; try with_reducible rfl)
          try simp only [List.setIfInBounds_toArray, List.set_cons_zero, List.set_cons_succ]
          refine take_by 1 12 (v := ?_) rfl rfl (by kernel_rfl) (by kernel_rfl) (by kernel_rfl) (fun _ _ _ h => h) (Or.inl ⟨by rfl, ?_⟩) (by assumption) ?_
          rotate_left
          · (intro w hSw; (try dsimp only at hSw); go_simp; try with_reducible rfl)
          try simp only [List.setIfInBounds_toArray, List.set_cons_zero, List.set_cons_succ]
          refine take_by 2 13 (v := ?_) rfl rfl (by kernel_rfl) (by kernel_rfl) (by kernel_rfl) (fun _ _ _ h => h) (Or.inl ⟨by rfl, ?_⟩) (by assumption) ?_
          rotate_left
          · (intro w hSw; (try dsimp only at hSw); go_simp; try with_reducible rfl)
          try simp only [List.setIfInBounds_toArray, List.set_cons_zero, List.set_cons_succ]
          refine take_by 4 15 (v := ?_) rfl rfl (by kernel_rfl) (by kernel_rfl) (by kernel_rfl) (fun _ _ _ h => h) (Or.inl ⟨by rfl, ?_⟩) (by assumption) ?_
          rotate_left
          · (intro w hSw; (try dsimp only at hSw); go_simp; try with_reducible rfl)
          try simp only [List.setIfInBounds_toArray, List.set_cons_zero, List.set_cons_succ]
          refine wpAnyH_ready (rs := [3]) (by kernel_rfl) (by simp) ?_
          refine AllReadyH.cons rfl (fun K hK => ?_) AllReadyH.nil
          go_simp
          (go_at_call 36; refine (HH.out _).mono ?_; rintro e w4 ⟨g, rfl, hb4, hk4⟩; have HK4 := hx (show Kept [] w1 w4 from (Kept.drew (Kept.refl [] w1)).trans0 hk4); have c4 := hb4.cell (i := 0) rfl; have hS4 := HSK.out _ HK4.out)
          refine hK.out _ _ (hS4) (fun hHeld => ?_)
          clear hK K
          try simp only [Act.put, List.setIfInBounds_toArray, List.set_cons_zero, List.set_cons_succ]
          refine take_by 5 16 (v := ?_) rfl rfl (by kernel_rfl) (by kernel_rfl) (by kernel_rfl) (fun _ _ _ h => h) (Or.inl ⟨by rfl, ?_⟩) (by assumption) ?_
          rotate_left
          · (intro w hSw; (try dsimp only at hSw); go_simp; try with_reducible rfl)
          try simp only [List.setIfInBounds_toArray, List.set_cons_zero, List.set_cons_succ]
          refine wpAnyH_ready (rs := [6]) (by kernel_rfl) (by simp) ?_
          refine AllReadyH.cons rfl (fun K hK => ?_) AllReadyH.nil
          go_simp
          refine hK.out _ _ (hS4) (fun hHeld => ?_)
          clear hK K
          try simp only [Act.put, List.setIfInBounds_toArray, List.set_cons_zero, List.set_cons_succ]
          refine take_by 7 18 (v := ?_) rfl rfl (by kernel_rfl) (by kernel_rfl) (by kernel_rfl) (fun _ _ _ h => h) (Or.inl ⟨by rfl, ?_⟩) (by assumption) ?_
          rotate_left
          · (intro w hSw; (try dsimp only at hSw); go_simp; try with_reducible rfl)
          try simp only [List.setIfInBounds_toArray, List.set_cons_zero, List.set_cons_succ]
          refine wpAnyH_done (by kernel_rfl) ?_ _
          clear HSK hS4 c4 HH
          go_wp2_with (first
            | (go_at_call 50; refine (HC.out _).mono ?_; rintro e w5 ⟨g5, rfl, hb5, hk5⟩; have HK5 := hx (show Kept [] w1 w5 from HK4.out.trans0 hk5); have c5 := hb5.cell (i := 0) rfl; clear hb5 hk5)
            | (go_at_call 31; refine (HNUM.out bw _ (HK5.out.blk HB1.out (by simp))).mono ?_; rintro e w6 h6; obtain ⟨hk6, u6, rfl, ho6⟩ := h6; have HO := hx (own_low ho6 (Nat.le_trans HK1.out.size HK5.out.size)); obtain ⟨g6, cap6, rfl, hg6, _, hc6⟩ := own_cells ho6 (by simp); have d0 := hc6 0 a rfl; have d1 := hc6 1 b rfl; have HK6 := hx (HK1.out.trans0 (HK5.out.trans0 hk6)); clear hk6 ho6 hc6 hg6)
            | (go_at_call 51; refine (HM.out _ _).mono ?_; rintro e w7 ⟨rfl, rfl⟩))
          go_ret2
          exact ⟨HK6.out, rfl⟩
    · rw [if_neg hw]
      have hne : (w0 == [103, 97, 109, 101]) = false := by simpa [headW] using hw
      clear hw HC HM
      go_enter Tryd.func41, Tryd.ntmps41
      go_upto_region 2 with (go_at_call 30; refine HS.out.mono ?_; rintro e w1 ⟨bw, rfl, hbw, hb1, hk1⟩; have HB1 := hx hb1; have HK1 := hx hk1; clear hb1 hk1)
      have HSK := hx (fun (w3 : World) (hk : Kept [] w1 w3) => show (fun w3 : World => w3.cell? ⟨bw, 0, none⟩ = some (txt w0)) w3 from (hk.blk HB1.out (by simp)).cell (i := 0) rfl)
      clear HS
      refine wp_region_held_drew (S := (fun w3 => w3.cell? ⟨bw, 0, none⟩ = some (txt w0))) (by kernel_rfl) (HSK.out _ ((Kept.refl [] w1).drew)) (fun hHeld => ?_)
      refine take_by 0 11 (v := ?_) rfl rfl (by kernel_rfl) (by kernel_rfl) (by kernel_rfl) (fun _ _ _ h => h) (Or.inl ⟨by rfl, ?_⟩) (by assumption) ?_
      rotate_left
      · (intro w hSw; (try dsimp only at hSw); go_simp; try with_reducible rfl)
      try simp only [List.setIfInBounds_toArray, List.set_cons_zero, List.set_cons_succ]
      refine take_by 1 12 (v := ?_) rfl rfl (by kernel_rfl) (by kernel_rfl) (by kernel_rfl) (fun _ _ _ h => h) (Or.inl ⟨by rfl, ?_⟩) (by assumption) ?_
      rotate_left
      · (intro w hSw; (try dsimp only at hSw); go_simp; try with_reducible rfl)
      try simp only [List.setIfInBounds_toArray, List.set_cons_zero, List.set_cons_succ]
      refine take_by 2 13 (v := ?_) rfl rfl (by kernel_rfl) (by kernel_rfl) (by kernel_rfl) (fun _ _ _ h => h) (Or.inl ⟨by rfl, ?_⟩) (by assumption) ?_
      rotate_left
      · (intro w hSw; (try dsimp only at hSw); go_simp; try with_reducible rfl)
      try simp only [List.setIfInBounds_toArray, List.set_cons_zero, List.set_cons_succ]
      refine take_by 4 15 (v := ?_) rfl rfl (by kernel_rfl) (by kernel_rfl) (by kernel_rfl) (fun _ _ _ h => h) (Or.inl ⟨by rfl, ?_⟩) (by assumption) ?_
      rotate_left
      · (intro w hSw; (try dsimp only at hSw); go_simp; try with_reducible rfl)
      try simp only [List.setIfInBounds_toArray, List.set_cons_zero, List.set_cons_succ]
      refine wpAnyH_ready (rs := [3]) (by kernel_rfl) (by simp) ?_
      refine AllReadyH.cons rfl (fun K hK => ?_) AllReadyH.nil
      go_simp
      (go_at_call 36; refine (HH.out _).mono ?_; rintro e w4 ⟨g, rfl, hb4, hk4⟩; have HK4 := hx (show Kept [] w1 w4 from (Kept.drew (Kept.refl [] w1)).trans0 hk4); have c4 := hb4.cell (i := 0) rfl; have hS4 := HSK.out _ HK4.out)
      refine hK.out _ _ (hS4) (fun hHeld => ?_)
      clear hK K
      try simp only [Act.put, List.setIfInBounds_toArray, List.set_cons_zero, List.set_cons_succ]
      refine take_by 5 16 (v := ?_) rfl rfl (by kernel_rfl) (by kernel_rfl) (by kernel_rfl) (fun _ _ _ h => h) (Or.inl ⟨by rfl, ?_⟩) (by assumption) ?_
      rotate_left
      · (intro w hSw; (try dsimp only at hSw); go_simp; try with_reducible rfl)
      try simp only [List.setIfInBounds_toArray, List.set_cons_zero, List.set_cons_succ]
      refine wpAnyH_ready (rs := [6]) (by kernel_rfl) (by simp) ?_
      refine AllReadyH.cons rfl (fun K hK => ?_) AllReadyH.nil
      go_simp
      refine hK.out _ _ (hS4) (fun hHeld => ?_)
      clear hK K
      try simp only [Act.put, List.setIfInBounds_toArray, List.set_cons_zero, List.set_cons_succ]
      refine take_by 7 18 (v := ?_) rfl rfl (by kernel_rfl) (by kernel_rfl) (by kernel_rfl) (fun _ _ _ h => h) (Or.inl ⟨by rfl, ?_⟩) (by assumption) ?_
      rotate_left
      · (intro w hSw; (try dsimp only at hSw); go_simp; try with_reducible rfl)
      try simp only [List.setIfInBounds_toArray, List.set_cons_zero, List.set_cons_succ]
      refine wpAnyH_done (by kernel_rfl) ?_ _
      go_wp2_with fail
      go_ret2
      exact ⟨HK1.out.trans0 HK4.out, rfl⟩
  · show Calls _ _ #[txt l, .int .i64 1] w _
    by_cases hw : w0 = headW 1
    · rw [if_pos hw]
      have heq : (w0 == [115, 101, 110, 100]) = true := by simp [hw, headW]
      clear hw
      have HNUM := hx (fun (bw : Nat) w1 (hb : Blk w1 bw (txts (w0 :: ws)) 9) => numbers_any bw w0 ws 3 w1 hb (by omega))
      have hcn : headC 1 = 3 := rfl
      rw [hcn]
      clear hcn
      cases ho : (if ws.length = 3 then readAll ws else none) with
      | none =>
        rw [ho] at HNUM
        clear ho
        go_enter Tryd.func41, Tryd.ntmps41
        go_upto_region 2 with (go_at_call 30; refine HS.out.mono ?_; rintro e w1 ⟨bw, rfl, hbw, hb1, hk1⟩; have HB1 := hx hb1; have HK1 := hx hk1; clear hb1 hk1)
        have HSK := hx (fun (w3 : World) (hk : Kept [] w1 w3) => show (fun w3 : World => w3.cell? ⟨bw, 0, none⟩ = some (txt w0)) w3 from (hk.blk HB1.out (by simp)).cell (i := 0) rfl)
        clear HS
        refine wp_region_held_drew (S := (fun w3 => w3.cell? ⟨bw, 0, none⟩ = some (txt w0))) (by kernel_rfl) (HSK.out _ ((Kept.refl [] w1).drew)) (fun hHeld => ?_)
        refine take_by 0 11 (v := ?_) rfl rfl (by kernel_rfl) (by kernel_rfl) (by kernel_rfl) (fun _ _ _ h => h) (Or.inl ⟨by rfl, ?_⟩) (by assumption) ?_
        rotate_left
        · (intro w hSw; (try dsimp only at hSw); go_simp; try with_reducible rfl)
        try simp only [List.setIfInBounds_toArray, List.set_cons_zero, List.set_cons_succ]
        refine take_by 1 12 (v := ?_) rfl rfl (by kernel_rfl) (by kernel_rfl) (by kernel_rfl) (fun _ _ _ h => h) (Or.inl ⟨by rfl, ?_⟩) (by assumption) ?_
        rotate_left
        · (intro w hSw; (try dsimp only at hSw); go_simp; try with_reducible rfl)
        try simp only [List.setIfInBounds_toArray, List.set_cons_zero, List.set_cons_succ]
        refine take_by 2 13 (v := ?_) rfl rfl (by kernel_rfl) (by kernel_rfl) (by kernel_rfl) (fun _ _ _ h => h) (Or.inl ⟨by rfl, ?_⟩) (by assumption) ?_
        rotate_left
        · (intro w hSw; (try dsimp only at hSw); go_simp; try with_reducible rfl)
        try simp only [List.setIfInBounds_toArray, List.set_cons_zero, List.set_cons_succ]
        refine take_by 4 15 (v := ?_) rfl rfl (by kernel_rfl) (by kernel_rfl) (by kernel_rfl) (fun _ _ _ h => h) (Or.inl ⟨by rfl, ?_⟩) (by assumption) ?_
        rotate_left
        · (intro w hSw; (try dsimp only at hSw); go_simp; try with_reducible rfl)
        try simp only [List.setIfInBounds_toArray, List.set_cons_zero, List.set_cons_succ]
        refine wpAnyH_ready (rs := [3]) (by kernel_rfl) (by simp) ?_
        refine AllReadyH.cons rfl (fun K hK => ?_) AllReadyH.nil
        go_simp
        (go_at_call 36; refine (HH.out _).mono ?_; rintro e w4 ⟨g, rfl, hb4, hk4⟩; have HK4 := hx (show Kept [] w1 w4 from (Kept.drew (Kept.refl [] w1)).trans0 hk4); have c4 := hb4.cell (i := 1) rfl; have hS4 := HSK.out _ HK4.out)
        refine hK.out _ _ (hS4) (fun hHeld => ?_)
        clear hK K
        try simp only [Act.put, List.setIfInBounds_toArray, List.set_cons_zero, List.set_cons_succ]
        refine take_by 5 16 (v := ?_) rfl rfl (by kernel_rfl) (by kernel_rfl) (by kernel_rfl) (fun _ _ _ h => h) (Or.inl ⟨by rfl, ?_⟩) (by assumption) ?_
        rotate_left
        · (intro w hSw; (try dsimp only at hSw); go_simp; try with_reducible rfl)
        try simp only [List.setIfInBounds_toArray, List.set_cons_zero, List.set_cons_succ]
        refine wpAnyH_ready (rs := [6]) (by kernel_rfl) (by simp) ?_
        refine AllReadyH.cons rfl (fun K hK => ?_) AllReadyH.nil
        go_simp
        refine hK.out _ _ (hS4) (fun hHeld => ?_)
        clear hK K
        try simp only [Act.put, List.setIfInBounds_toArray, List.set_cons_zero, List.set_cons_succ]
        refine take_by 7 18 (v := ?_) rfl rfl (by kernel_rfl) (by kernel_rfl) (by kernel_rfl) (fun _ _ _ h => h) (Or.inl ⟨by rfl, ?_⟩) (by assumption) ?_
        rotate_left
        · (intro w hSw; (try dsimp only at hSw); go_simp; try with_reducible rfl)
        try simp only [List.setIfInBounds_toArray, List.set_cons_zero, List.set_cons_succ]
        refine wpAnyH_done (by kernel_rfl) ?_ _
        clear HSK hS4 c4 HH
        go_wp2_with (first
          | (go_at_call 50; refine (HC.out _).mono ?_; rintro e w5 ⟨g5, rfl, hb5, hk5⟩; have HK5 := hx (show Kept [] w1 w5 from HK4.out.trans0 hk5); have c5 := hb5.cell (i := 1) rfl; clear hb5 hk5)
          | (go_at_call 31; refine (HNUM.out bw _ (HK5.out.blk HB1.out (by simp))).mono ?_; rintro e w6 h6; obtain ⟨hk6, rfl⟩ := h6; have HK6 := hx (HK1.out.trans0 (HK5.out.trans0 hk6)); clear hk6))
        go_ret2
        exact ⟨HK6.out, rfl⟩
      | some ns =>
        rw [ho] at HNUM
        have hnl : ns.length = 3 := by
          by_cases hh : ws.length = 3
          · rw [if_pos hh] at ho
            rw [(readAll_some ho).1, hh]
          · rw [if_neg hh] at ho
            simp at ho
        clear ho
        obtain ⟨a, b, c, rfl⟩ : ∃ a b c, ns = [a, b, c] := by
          match ns, hnl with
          | [a, b, c], _ => exact ⟨a, b, c, rfl⟩
        clear hnl
        have HOK := hx (show okN 1 [a, b, c] = true from rfl)
        dsimp only
        rw [if_pos HOK.out]
        clear HOK
        go_enter Tryd.func41, Tryd.ntmps41
        go_upto_region 2 with (go_at_call 30; refine HS.out.mono ?_; rintro e w1 ⟨bw, rfl, hbw, hb1, hk1⟩; have HB1 := hx hb1; have HK1 := hx hk1; clear hb1 hk1)
        have HSK := hx (fun (w3 : World) (hk : Kept [] w1 w3) => show (fun w3 : World => w3.cell? ⟨bw, 0, none⟩ = some (txt w0)) w3 from (hk.blk HB1.out (by simp)).cell (i := 0) rfl)
        clear HS
        refine wp_region_held_drew (S := (fun w3 => w3.cell? ⟨bw, 0, none⟩ = some (txt w0))) (by kernel_rfl) (HSK.out _ ((Kept.refl [] w1).drew)) (fun hHeld => ?_)
        refine take_by 0 11 (v := ?_) rfl rfl (by kernel_rfl) (by kernel_rfl) (by kernel_rfl) (fun _ _ _ h => h) (Or.inl ⟨by rfl, ?_⟩) (by assumption) ?_
        rotate_left
        · (intro w hSw; (try dsimp only at hSw); go_simp; try with_reducible rfl)
        try simp only [List.setIfInBounds_toArray, List.set_cons_zero, List.set_cons_succ]
        refine take_by 1 12 (v := ?_) rfl rfl (by kernel_rfl) (by kernel_rfl) (by kernel_rfl) (fun _ _ _ h => h) (Or.inl ⟨by rfl, ?_⟩) (by assumption) ?_
        rotate_left
        · (intro w hSw; (try dsimp only at hSw); go_simp; try with_reducible rfl)
        try simp only [List.setIfInBounds_toArray, List.set_cons_zero, List.set_cons_succ]
        refine take_by 2 13 (v := ?_) rfl rfl (by kernel_rfl) (by kernel_rfl) (by kernel_rfl) (fun _ _ _ h => h) (Or.inl ⟨by rfl, ?_⟩) (by assumption) ?_
        rotate_left
        · (intro w hSw; (try dsimp only at hSw); go_simp; try with_reducible rfl)
        try simp only [List.setIfInBounds_toArray, List.set_cons_zero, List.set_cons_succ]
        refine take_by 4 15 (v := ?_) rfl rfl (by kernel_rfl) (by kernel_rfl) (by kernel_rfl) (fun _ _ _ h => h) (Or.inl ⟨by rfl, ?_⟩) (by assumption) ?_
        rotate_left
        · (intro w hSw; (try dsimp only at hSw); go_simp; try with_reducible rfl)
        try simp only [List.setIfInBounds_toArray, List.set_cons_zero, List.set_cons_succ]
        refine wpAnyH_ready (rs := [3]) (by kernel_rfl) (by simp) ?_
        refine AllReadyH.cons rfl (fun K hK => ?_) AllReadyH.nil
        go_simp
        (go_at_call 36; refine (HH.out _).mono ?_; rintro e w4 ⟨g, rfl, hb4, hk4⟩; have HK4 := hx (show Kept [] w1 w4 from (Kept.drew (Kept.refl [] w1)).trans0 hk4); have c4 := hb4.cell (i := 1) rfl; have hS4 := HSK.out _ HK4.out)
        refine hK.out _ _ (hS4) (fun hHeld => ?_)
        clear hK K
        try simp only [Act.put, List.setIfInBounds_toArray, List.set_cons_zero, List.set_cons_succ]
        refine take_by 5 16 (v := ?_) rfl rfl (by kernel_rfl) (by kernel_rfl) (by kernel_rfl) (fun _ _ _ h => h) (Or.inl ⟨by rfl, ?_⟩) (by assumption) ?_
        rotate_left
        · (intro w hSw; (try dsimp only at hSw); go_simp; try with_reducible rfl)
        try simp only [List.setIfInBounds_toArray, List.set_cons_zero, List.set_cons_succ]
        refine wpAnyH_ready (rs := [6]) (by kernel_rfl) (by simp) ?_
        refine AllReadyH.cons rfl (fun K hK => ?_) AllReadyH.nil
        go_simp
        refine hK.out _ _ (hS4) (fun hHeld => ?_)
        clear hK K
        try simp only [Act.put, List.setIfInBounds_toArray, List.set_cons_zero, List.set_cons_succ]
        refine take_by 7 18 (v := ?_) rfl rfl (by kernel_rfl) (by kernel_rfl) (by kernel_rfl) (fun _ _ _ h => h) (Or.inl ⟨by rfl, ?_⟩) (by assumption) ?_
        rotate_left
        · (intro w hSw; (try dsimp only at hSw); go_simp; try with_reducible rfl)
        try simp only [List.setIfInBounds_toArray, List.set_cons_zero, List.set_cons_succ]
        refine wpAnyH_done (by kernel_rfl) ?_ _
        clear HSK hS4 c4 HH
        go_wp2_with (first
          | (go_at_call 50; refine (HC.out _).mono ?_; rintro e w5 ⟨g5, rfl, hb5, hk5⟩; have HK5 := hx (show Kept [] w1 w5 from HK4.out.trans0 hk5); have c5 := hb5.cell (i := 1) rfl; clear hb5 hk5)
          | (go_at_call 31; refine (HNUM.out bw _ (HK5.out.blk HB1.out (by simp))).mono ?_; rintro e w6 h6; obtain ⟨hk6, u6, rfl, ho6⟩ := h6; have HO := hx (own_low ho6 (Nat.le_trans HK1.out.size HK5.out.size)); obtain ⟨g6, cap6, rfl, hg6, _, hc6⟩ := own_cells ho6 (by simp); have d0 := hc6 0 a rfl; have d1 := hc6 1 b rfl; have HK6 := hx (HK1.out.trans0 (HK5.out.trans0 hk6)); clear hk6 ho6 hc6 hg6)
          | (go_at_call 51; refine (HM.out _ _).mono ?_; rintro e w7 ⟨rfl, rfl⟩))
        go_ret2
        exact ⟨HK6.out, _, rfl, HO.out⟩
    · rw [if_neg hw]
      have hne : (w0 == [115, 101, 110, 100]) = false := by simpa [headW] using hw
      clear hw HC HM
      go_enter Tryd.func41, Tryd.ntmps41
      go_upto_region 2 with (go_at_call 30; refine HS.out.mono ?_; rintro e w1 ⟨bw, rfl, hbw, hb1, hk1⟩; have HB1 := hx hb1; have HK1 := hx hk1; clear hb1 hk1)
      have HSK := hx (fun (w3 : World) (hk : Kept [] w1 w3) => show (fun w3 : World => w3.cell? ⟨bw, 0, none⟩ = some (txt w0)) w3 from (hk.blk HB1.out (by simp)).cell (i := 0) rfl)
      clear HS
      refine wp_region_held_drew (S := (fun w3 => w3.cell? ⟨bw, 0, none⟩ = some (txt w0))) (by kernel_rfl) (HSK.out _ ((Kept.refl [] w1).drew)) (fun hHeld => ?_)
      refine take_by 0 11 (v := ?_) rfl rfl (by kernel_rfl) (by kernel_rfl) (by kernel_rfl) (fun _ _ _ h => h) (Or.inl ⟨by rfl, ?_⟩) (by assumption) ?_
      rotate_left
      · (intro w hSw; (try dsimp only at hSw); go_simp; try with_reducible rfl)
      try simp only [List.setIfInBounds_toArray, List.set_cons_zero, List.set_cons_succ]
      refine take_by 1 12 (v := ?_) rfl rfl (by kernel_rfl) (by kernel_rfl) (by kernel_rfl) (fun _ _ _ h => h) (Or.inl ⟨by rfl, ?_⟩) (by assumption) ?_
      rotate_left
      · (intro w hSw; (try dsimp only at hSw); go_simp; try with_reducible rfl)
      try simp only [List.setIfInBounds_toArray, List.set_cons_zero, List.set_cons_succ]
      refine take_by 2 13 (v := ?_) rfl rfl (by kernel_rfl) (by kernel_rfl) (by kernel_rfl) (fun _ _ _ h => h) (Or.inl ⟨by rfl, ?_⟩) (by assumption) ?_
      rotate_left
      · (intro w hSw; (try dsimp only at hSw); go_simp; try with_reducible rfl)
      try simp only [List.setIfInBounds_toArray, List.set_cons_zero, List.set_cons_succ]
      refine take_by 4 15 (v := ?_) rfl rfl (by kernel_rfl) (by kernel_rfl) (by kernel_rfl) (fun _ _ _ h => h) (Or.inl ⟨by rfl, ?_⟩) (by assumption) ?_
      rotate_left
      · (intro w hSw; (try dsimp only at hSw); go_simp; try with_reducible rfl)
      try simp only [List.setIfInBounds_toArray, List.set_cons_zero, List.set_cons_succ]
      refine wpAnyH_ready (rs := [3]) (by kernel_rfl) (by simp) ?_
      refine AllReadyH.cons rfl (fun K hK => ?_) AllReadyH.nil
      go_simp
      (go_at_call 36; refine (HH.out _).mono ?_; rintro e w4 ⟨g, rfl, hb4, hk4⟩; have HK4 := hx (show Kept [] w1 w4 from (Kept.drew (Kept.refl [] w1)).trans0 hk4); have c4 := hb4.cell (i := 1) rfl; have hS4 := HSK.out _ HK4.out)
      refine hK.out _ _ (hS4) (fun hHeld => ?_)
      clear hK K
      try simp only [Act.put, List.setIfInBounds_toArray, List.set_cons_zero, List.set_cons_succ]
      refine take_by 5 16 (v := ?_) rfl rfl (by kernel_rfl) (by kernel_rfl) (by kernel_rfl) (fun _ _ _ h => h) (Or.inl ⟨by rfl, ?_⟩) (by assumption) ?_
      rotate_left
      · (intro w hSw; (try dsimp only at hSw); go_simp; try with_reducible rfl)
      try simp only [List.setIfInBounds_toArray, List.set_cons_zero, List.set_cons_succ]
      refine wpAnyH_ready (rs := [6]) (by kernel_rfl) (by simp) ?_
      refine AllReadyH.cons rfl (fun K hK => ?_) AllReadyH.nil
      go_simp
      refine hK.out _ _ (hS4) (fun hHeld => ?_)
      clear hK K
      try simp only [Act.put, List.setIfInBounds_toArray, List.set_cons_zero, List.set_cons_succ]
      refine take_by 7 18 (v := ?_) rfl rfl (by kernel_rfl) (by kernel_rfl) (by kernel_rfl) (fun _ _ _ h => h) (Or.inl ⟨by rfl, ?_⟩) (by assumption) ?_
      rotate_left
      · (intro w hSw; (try dsimp only at hSw); go_simp; try with_reducible rfl)
      try simp only [List.setIfInBounds_toArray, List.set_cons_zero, List.set_cons_succ]
      refine wpAnyH_done (by kernel_rfl) ?_ _
      go_wp2_with fail
      go_ret2
      exact ⟨HK1.out.trans0 HK4.out, rfl⟩
  · show Calls _ _ #[txt l, .int .i64 2] w _
    by_cases hw : w0 = headW 2
    · rw [if_pos hw]
      have heq : (w0 == [114, 97, 116, 101]) = true := by simp [hw, headW]
      clear hw
      have HNUM := hx (fun (bw : Nat) w1 (hb : Blk w1 bw (txts (w0 :: ws)) 9) => numbers_any bw w0 ws 2 w1 hb (by omega))
      have hcn : headC 2 = 2 := rfl
      rw [hcn]
      clear hcn
      cases ho : (if ws.length = 2 then readAll ws else none) with
      | none =>
        rw [ho] at HNUM
        clear ho
        go_enter Tryd.func41, Tryd.ntmps41
        go_upto_region 2 with (go_at_call 30; refine HS.out.mono ?_; rintro e w1 ⟨bw, rfl, hbw, hb1, hk1⟩; have HB1 := hx hb1; have HK1 := hx hk1; clear hb1 hk1)
        have HSK := hx (fun (w3 : World) (hk : Kept [] w1 w3) => show (fun w3 : World => w3.cell? ⟨bw, 0, none⟩ = some (txt w0)) w3 from (hk.blk HB1.out (by simp)).cell (i := 0) rfl)
        clear HS
        refine wp_region_held_drew (S := (fun w3 => w3.cell? ⟨bw, 0, none⟩ = some (txt w0))) (by kernel_rfl) (HSK.out _ ((Kept.refl [] w1).drew)) (fun hHeld => ?_)
        refine take_by 0 11 (v := ?_) rfl rfl (by kernel_rfl) (by kernel_rfl) (by kernel_rfl) (fun _ _ _ h => h) (Or.inl ⟨by rfl, ?_⟩) (by assumption) ?_
        rotate_left
        · (intro w hSw; (try dsimp only at hSw); go_simp; try with_reducible rfl)
        try simp only [List.setIfInBounds_toArray, List.set_cons_zero, List.set_cons_succ]
        refine take_by 1 12 (v := ?_) rfl rfl (by kernel_rfl) (by kernel_rfl) (by kernel_rfl) (fun _ _ _ h => h) (Or.inl ⟨by rfl, ?_⟩) (by assumption) ?_
        rotate_left
        · (intro w hSw; (try dsimp only at hSw); go_simp; try with_reducible rfl)
        try simp only [List.setIfInBounds_toArray, List.set_cons_zero, List.set_cons_succ]
        refine take_by 2 13 (v := ?_) rfl rfl (by kernel_rfl) (by kernel_rfl) (by kernel_rfl) (fun _ _ _ h => h) (Or.inl ⟨by rfl, ?_⟩) (by assumption) ?_
        rotate_left
        · (intro w hSw; (try dsimp only at hSw); go_simp; try with_reducible rfl)
        try simp only [List.setIfInBounds_toArray, List.set_cons_zero, List.set_cons_succ]
        refine take_by 4 15 (v := ?_) rfl rfl (by kernel_rfl) (by kernel_rfl) (by kernel_rfl) (fun _ _ _ h => h) (Or.inl ⟨by rfl, ?_⟩) (by assumption) ?_
        rotate_left
        · (intro w hSw; (try dsimp only at hSw); go_simp; try with_reducible rfl)
        try simp only [List.setIfInBounds_toArray, List.set_cons_zero, List.set_cons_succ]
        refine wpAnyH_ready (rs := [3]) (by kernel_rfl) (by simp) ?_
        refine AllReadyH.cons rfl (fun K hK => ?_) AllReadyH.nil
        go_simp
        (go_at_call 36; refine (HH.out _).mono ?_; rintro e w4 ⟨g, rfl, hb4, hk4⟩; have HK4 := hx (show Kept [] w1 w4 from (Kept.drew (Kept.refl [] w1)).trans0 hk4); have c4 := hb4.cell (i := 2) rfl; have hS4 := HSK.out _ HK4.out)
        refine hK.out _ _ (hS4) (fun hHeld => ?_)
        clear hK K
        try simp only [Act.put, List.setIfInBounds_toArray, List.set_cons_zero, List.set_cons_succ]
        refine take_by 5 16 (v := ?_) rfl rfl (by kernel_rfl) (by kernel_rfl) (by kernel_rfl) (fun _ _ _ h => h) (Or.inl ⟨by rfl, ?_⟩) (by assumption) ?_
        rotate_left
        · (intro w hSw; (try dsimp only at hSw); go_simp; try with_reducible rfl)
        try simp only [List.setIfInBounds_toArray, List.set_cons_zero, List.set_cons_succ]
        refine wpAnyH_ready (rs := [6]) (by kernel_rfl) (by simp) ?_
        refine AllReadyH.cons rfl (fun K hK => ?_) AllReadyH.nil
        go_simp
        refine hK.out _ _ (hS4) (fun hHeld => ?_)
        clear hK K
        try simp only [Act.put, List.setIfInBounds_toArray, List.set_cons_zero, List.set_cons_succ]
        refine take_by 7 18 (v := ?_) rfl rfl (by kernel_rfl) (by kernel_rfl) (by kernel_rfl) (fun _ _ _ h => h) (Or.inl ⟨by rfl, ?_⟩) (by assumption) ?_
        rotate_left
        · (intro w hSw; (try dsimp only at hSw); go_simp; try with_reducible rfl)
        try simp only [List.setIfInBounds_toArray, List.set_cons_zero, List.set_cons_succ]
        refine wpAnyH_done (by kernel_rfl) ?_ _
        clear HSK hS4 c4 HH
        go_wp2_with (first
          | (go_at_call 50; refine (HC.out _).mono ?_; rintro e w5 ⟨g5, rfl, hb5, hk5⟩; have HK5 := hx (show Kept [] w1 w5 from HK4.out.trans0 hk5); have c5 := hb5.cell (i := 2) rfl; clear hb5 hk5)
          | (go_at_call 31; refine (HNUM.out bw _ (HK5.out.blk HB1.out (by simp))).mono ?_; rintro e w6 h6; obtain ⟨hk6, rfl⟩ := h6; have HK6 := hx (HK1.out.trans0 (HK5.out.trans0 hk6)); clear hk6))
        go_ret2
        exact ⟨HK6.out, rfl⟩
      | some ns =>
        rw [ho] at HNUM
        have hnl : ns.length = 2 := by
          by_cases hh : ws.length = 2
          · rw [if_pos hh] at ho
            rw [(readAll_some ho).1, hh]
          · rw [if_neg hh] at ho
            simp at ho
        clear ho
        obtain ⟨a, b, rfl⟩ : ∃ a b, ns = [a, b] := by
          match ns, hnl with
          | [a, b], _ => exact ⟨a, b, rfl⟩
        clear hnl
        have HOK := hx (show okN 2 [a, b] = true from rfl)
        dsimp only
        rw [if_pos HOK.out]
        clear HOK
        go_enter Tryd.func41, Tryd.ntmps41
        go_upto_region 2 with (go_at_call 30; refine HS.out.mono ?_; rintro e w1 ⟨bw, rfl, hbw, hb1, hk1⟩; have HB1 := hx hb1; have HK1 := hx hk1; clear hb1 hk1)
        have HSK := hx (fun (w3 : World) (hk : Kept [] w1 w3) => show (fun w3 : World => w3.cell? ⟨bw, 0, none⟩ = some (txt w0)) w3 from (hk.blk HB1.out (by simp)).cell (i := 0) rfl)
        clear HS
        refine wp_region_held_drew (S := (fun w3 => w3.cell? ⟨bw, 0, none⟩ = some (txt w0))) (by kernel_rfl) (HSK.out _ ((Kept.refl [] w1).drew)) (fun hHeld => ?_)
        refine take_by 0 11 (v := ?_) rfl rfl (by kernel_rfl) (by kernel_rfl) (by kernel_rfl) (fun _ _ _ h => h) (Or.inl ⟨by rfl, ?_⟩) (by assumption) ?_
        rotate_left
        · (intro w hSw; (try dsimp only at hSw); go_simp; try with_reducible rfl)
        try simp only [List.setIfInBounds_toArray, List.set_cons_zero, List.set_cons_succ]
        refine take_by 1 12 (v := ?_) rfl rfl (by kernel_rfl) (by kernel_rfl) (by kernel_rfl) (fun _ _ _ h => h) (Or.inl ⟨by rfl, ?_⟩) (by assumption) ?_
        rotate_left
        · (intro w hSw; (try dsimp only at hSw); go_simp; try with_reducible rfl)
        try simp only [List.setIfInBounds_toArray, List.set_cons_zero, List.set_cons_succ]
        refine take_by 2 13 (v := ?_) rfl rfl (by kernel_rfl) (by kernel_rfl) (by kernel_rfl) (fun _ _ _ h => h) (Or.inl ⟨by rfl, ?_⟩) (by assumption) ?_
        rotate_left
        · (intro w hSw; (try dsimp only at hSw); go_simp; try with_reducible rfl)
        try simp only [List.setIfInBounds_toArray, List.set_cons_zero, List.set_cons_succ]
        refine take_by 4 15 (v := ?_) rfl rfl (by kernel_rfl) (by kernel_rfl) (by kernel_rfl) (fun _ _ _ h => h) (Or.inl ⟨by rfl, ?_⟩) (by assumption) ?_
        rotate_left
        · (intro w hSw; (try dsimp only at hSw); go_simp; try with_reducible rfl)
        try simp only [List.setIfInBounds_toArray, List.set_cons_zero, List.set_cons_succ]
        refine wpAnyH_ready (rs := [3]) (by kernel_rfl) (by simp) ?_
        refine AllReadyH.cons rfl (fun K hK => ?_) AllReadyH.nil
        go_simp
        (go_at_call 36; refine (HH.out _).mono ?_; rintro e w4 ⟨g, rfl, hb4, hk4⟩; have HK4 := hx (show Kept [] w1 w4 from (Kept.drew (Kept.refl [] w1)).trans0 hk4); have c4 := hb4.cell (i := 2) rfl; have hS4 := HSK.out _ HK4.out)
        refine hK.out _ _ (hS4) (fun hHeld => ?_)
        clear hK K
        try simp only [Act.put, List.setIfInBounds_toArray, List.set_cons_zero, List.set_cons_succ]
        refine take_by 5 16 (v := ?_) rfl rfl (by kernel_rfl) (by kernel_rfl) (by kernel_rfl) (fun _ _ _ h => h) (Or.inl ⟨by rfl, ?_⟩) (by assumption) ?_
        rotate_left
        · (intro w hSw; (try dsimp only at hSw); go_simp; try with_reducible rfl)
        try simp only [List.setIfInBounds_toArray, List.set_cons_zero, List.set_cons_succ]
        refine wpAnyH_ready (rs := [6]) (by kernel_rfl) (by simp) ?_
        refine AllReadyH.cons rfl (fun K hK => ?_) AllReadyH.nil
        go_simp
        refine hK.out _ _ (hS4) (fun hHeld => ?_)
        clear hK K
        try simp only [Act.put, List.setIfInBounds_toArray, List.set_cons_zero, List.set_cons_succ]
        refine take_by 7 18 (v := ?_) rfl rfl (by kernel_rfl) (by kernel_rfl) (by kernel_rfl) (fun _ _ _ h => h) (Or.inl ⟨by rfl, ?_⟩) (by assumption) ?_
        rotate_left
        · (intro w hSw; (try dsimp only at hSw); go_simp; try with_reducible rfl)
        try simp only [List.setIfInBounds_toArray, List.set_cons_zero, List.set_cons_succ]
        refine wpAnyH_done (by kernel_rfl) ?_ _
        clear HSK hS4 c4 HH
        go_wp2_with (first
          | (go_at_call 50; refine (HC.out _).mono ?_; rintro e w5 ⟨g5, rfl, hb5, hk5⟩; have HK5 := hx (show Kept [] w1 w5 from HK4.out.trans0 hk5); have c5 := hb5.cell (i := 2) rfl; clear hb5 hk5)
          | (go_at_call 31; refine (HNUM.out bw _ (HK5.out.blk HB1.out (by simp))).mono ?_; rintro e w6 h6; obtain ⟨hk6, u6, rfl, ho6⟩ := h6; have HO := hx (own_low ho6 (Nat.le_trans HK1.out.size HK5.out.size)); obtain ⟨g6, cap6, rfl, hg6, _, hc6⟩ := own_cells ho6 (by simp); have d0 := hc6 0 a rfl; have d1 := hc6 1 b rfl; have HK6 := hx (HK1.out.trans0 (HK5.out.trans0 hk6)); clear hk6 ho6 hc6 hg6)
          | (go_at_call 51; refine (HM.out _ _).mono ?_; rintro e w7 ⟨rfl, rfl⟩))
        go_ret2
        exact ⟨HK6.out, _, rfl, HO.out⟩
    · rw [if_neg hw]
      have hne : (w0 == [114, 97, 116, 101]) = false := by simpa [headW] using hw
      clear hw HC HM
      go_enter Tryd.func41, Tryd.ntmps41
      go_upto_region 2 with (go_at_call 30; refine HS.out.mono ?_; rintro e w1 ⟨bw, rfl, hbw, hb1, hk1⟩; have HB1 := hx hb1; have HK1 := hx hk1; clear hb1 hk1)
      have HSK := hx (fun (w3 : World) (hk : Kept [] w1 w3) => show (fun w3 : World => w3.cell? ⟨bw, 0, none⟩ = some (txt w0)) w3 from (hk.blk HB1.out (by simp)).cell (i := 0) rfl)
      clear HS
      refine wp_region_held_drew (S := (fun w3 => w3.cell? ⟨bw, 0, none⟩ = some (txt w0))) (by kernel_rfl) (HSK.out _ ((Kept.refl [] w1).drew)) (fun hHeld => ?_)
      refine take_by 0 11 (v := ?_) rfl rfl (by kernel_rfl) (by kernel_rfl) (by kernel_rfl) (fun _ _ _ h => h) (Or.inl ⟨by rfl, ?_⟩) (by assumption) ?_
      rotate_left
      · (intro w hSw; (try dsimp only at hSw); go_simp; try with_reducible rfl)
      try simp only [List.setIfInBounds_toArray, List.set_cons_zero, List.set_cons_succ]
      refine take_by 1 12 (v := ?_) rfl rfl (by kernel_rfl) (by kernel_rfl) (by kernel_rfl) (fun _ _ _ h => h) (Or.inl ⟨by rfl, ?_⟩) (by assumption) ?_
      rotate_left
      · (intro w hSw; (try dsimp only at hSw); go_simp; try with_reducible rfl)
      try simp only [List.setIfInBounds_toArray, List.set_cons_zero, List.set_cons_succ]
      refine take_by 2 13 (v := ?_) rfl rfl (by kernel_rfl) (by kernel_rfl) (by kernel_rfl) (fun _ _ _ h => h) (Or.inl ⟨by rfl, ?_⟩) (by assumption) ?_
      rotate_left
      · (intro w hSw; (try dsimp only at hSw); go_simp; try with_reducible rfl)
      try simp only [List.setIfInBounds_toArray, List.set_cons_zero, List.set_cons_succ]
      refine take_by 4 15 (v := ?_) rfl rfl (by kernel_rfl) (by kernel_rfl) (by kernel_rfl) (fun _ _ _ h => h) (Or.inl ⟨by rfl, ?_⟩) (by assumption) ?_
      rotate_left
      · (intro w hSw; (try dsimp only at hSw); go_simp; try with_reducible rfl)
      try simp only [List.setIfInBounds_toArray, List.set_cons_zero, List.set_cons_succ]
      refine wpAnyH_ready (rs := [3]) (by kernel_rfl) (by simp) ?_
      refine AllReadyH.cons rfl (fun K hK => ?_) AllReadyH.nil
      go_simp
      (go_at_call 36; refine (HH.out _).mono ?_; rintro e w4 ⟨g, rfl, hb4, hk4⟩; have HK4 := hx (show Kept [] w1 w4 from (Kept.drew (Kept.refl [] w1)).trans0 hk4); have c4 := hb4.cell (i := 2) rfl; have hS4 := HSK.out _ HK4.out)
      refine hK.out _ _ (hS4) (fun hHeld => ?_)
      clear hK K
      try simp only [Act.put, List.setIfInBounds_toArray, List.set_cons_zero, List.set_cons_succ]
      refine take_by 5 16 (v := ?_) rfl rfl (by kernel_rfl) (by kernel_rfl) (by kernel_rfl) (fun _ _ _ h => h) (Or.inl ⟨by rfl, ?_⟩) (by assumption) ?_
      rotate_left
      · (intro w hSw; (try dsimp only at hSw); go_simp; try with_reducible rfl)
      try simp only [List.setIfInBounds_toArray, List.set_cons_zero, List.set_cons_succ]
      refine wpAnyH_ready (rs := [6]) (by kernel_rfl) (by simp) ?_
      refine AllReadyH.cons rfl (fun K hK => ?_) AllReadyH.nil
      go_simp
      refine hK.out _ _ (hS4) (fun hHeld => ?_)
      clear hK K
      try simp only [Act.put, List.setIfInBounds_toArray, List.set_cons_zero, List.set_cons_succ]
      refine take_by 7 18 (v := ?_) rfl rfl (by kernel_rfl) (by kernel_rfl) (by kernel_rfl) (fun _ _ _ h => h) (Or.inl ⟨by rfl, ?_⟩) (by assumption) ?_
      rotate_left
      · (intro w hSw; (try dsimp only at hSw); go_simp; try with_reducible rfl)
      try simp only [List.setIfInBounds_toArray, List.set_cons_zero, List.set_cons_succ]
      refine wpAnyH_done (by kernel_rfl) ?_ _
      go_wp2_with fail
      go_ret2
      exact ⟨HK1.out.trans0 HK4.out, rfl⟩
  · show Calls _ _ #[txt l, .int .i64 3] w _
    by_cases hw : w0 = headW 3
    · rw [if_pos hw]
      have heq : (w0 == [109, 101, 101, 116]) = true := by simp [hw, headW]
      clear hw
      have HNUM := hx (fun (bw : Nat) w1 (hb : Blk w1 bw (txts (w0 :: ws)) 9) => numbers_any bw w0 ws 2 w1 hb (by omega))
      have hcn : headC 3 = 2 := rfl
      rw [hcn]
      clear hcn
      cases ho : (if ws.length = 2 then readAll ws else none) with
      | none =>
        rw [ho] at HNUM
        clear ho
        go_enter Tryd.func41, Tryd.ntmps41
        go_upto_region 2 with (go_at_call 30; refine HS.out.mono ?_; rintro e w1 ⟨bw, rfl, hbw, hb1, hk1⟩; have HB1 := hx hb1; have HK1 := hx hk1; clear hb1 hk1)
        have HSK := hx (fun (w3 : World) (hk : Kept [] w1 w3) => show (fun w3 : World => w3.cell? ⟨bw, 0, none⟩ = some (txt w0)) w3 from (hk.blk HB1.out (by simp)).cell (i := 0) rfl)
        clear HS
        refine wp_region_held_drew (S := (fun w3 => w3.cell? ⟨bw, 0, none⟩ = some (txt w0))) (by kernel_rfl) (HSK.out _ ((Kept.refl [] w1).drew)) (fun hHeld => ?_)
        refine take_by 0 11 (v := ?_) rfl rfl (by kernel_rfl) (by kernel_rfl) (by kernel_rfl) (fun _ _ _ h => h) (Or.inl ⟨by rfl, ?_⟩) (by assumption) ?_
        rotate_left
        · (intro w hSw; (try dsimp only at hSw); go_simp; try with_reducible rfl)
        try simp only [List.setIfInBounds_toArray, List.set_cons_zero, List.set_cons_succ]
        refine take_by 1 12 (v := ?_) rfl rfl (by kernel_rfl) (by kernel_rfl) (by kernel_rfl) (fun _ _ _ h => h) (Or.inl ⟨by rfl, ?_⟩) (by assumption) ?_
        rotate_left
        · (intro w hSw; (try dsimp only at hSw); go_simp; try with_reducible rfl)
        try simp only [List.setIfInBounds_toArray, List.set_cons_zero, List.set_cons_succ]
        refine take_by 2 13 (v := ?_) rfl rfl (by kernel_rfl) (by kernel_rfl) (by kernel_rfl) (fun _ _ _ h => h) (Or.inl ⟨by rfl, ?_⟩) (by assumption) ?_
        rotate_left
        · (intro w hSw; (try dsimp only at hSw); go_simp; try with_reducible rfl)
        try simp only [List.setIfInBounds_toArray, List.set_cons_zero, List.set_cons_succ]
        refine take_by 4 15 (v := ?_) rfl rfl (by kernel_rfl) (by kernel_rfl) (by kernel_rfl) (fun _ _ _ h => h) (Or.inl ⟨by rfl, ?_⟩) (by assumption) ?_
        rotate_left
        · (intro w hSw; (try dsimp only at hSw); go_simp; try with_reducible rfl)
        try simp only [List.setIfInBounds_toArray, List.set_cons_zero, List.set_cons_succ]
        refine wpAnyH_ready (rs := [3]) (by kernel_rfl) (by simp) ?_
        refine AllReadyH.cons rfl (fun K hK => ?_) AllReadyH.nil
        go_simp
        (go_at_call 36; refine (HH.out _).mono ?_; rintro e w4 ⟨g, rfl, hb4, hk4⟩; have HK4 := hx (show Kept [] w1 w4 from (Kept.drew (Kept.refl [] w1)).trans0 hk4); have c4 := hb4.cell (i := 3) rfl; have hS4 := HSK.out _ HK4.out)
        refine hK.out _ _ (hS4) (fun hHeld => ?_)
        clear hK K
        try simp only [Act.put, List.setIfInBounds_toArray, List.set_cons_zero, List.set_cons_succ]
        refine take_by 5 16 (v := ?_) rfl rfl (by kernel_rfl) (by kernel_rfl) (by kernel_rfl) (fun _ _ _ h => h) (Or.inl ⟨by rfl, ?_⟩) (by assumption) ?_
        rotate_left
        · (intro w hSw; (try dsimp only at hSw); go_simp; try with_reducible rfl)
        try simp only [List.setIfInBounds_toArray, List.set_cons_zero, List.set_cons_succ]
        refine wpAnyH_ready (rs := [6]) (by kernel_rfl) (by simp) ?_
        refine AllReadyH.cons rfl (fun K hK => ?_) AllReadyH.nil
        go_simp
        refine hK.out _ _ (hS4) (fun hHeld => ?_)
        clear hK K
        try simp only [Act.put, List.setIfInBounds_toArray, List.set_cons_zero, List.set_cons_succ]
        refine take_by 7 18 (v := ?_) rfl rfl (by kernel_rfl) (by kernel_rfl) (by kernel_rfl) (fun _ _ _ h => h) (Or.inl ⟨by rfl, ?_⟩) (by assumption) ?_
        rotate_left
        · (intro w hSw; (try dsimp only at hSw); go_simp; try with_reducible rfl)
        try simp only [List.setIfInBounds_toArray, List.set_cons_zero, List.set_cons_succ]
        refine wpAnyH_done (by kernel_rfl) ?_ _
        clear HSK hS4 c4 HH
        go_wp2_with (first
          | (go_at_call 50; refine (HC.out _).mono ?_; rintro e w5 ⟨g5, rfl, hb5, hk5⟩; have HK5 := hx (show Kept [] w1 w5 from HK4.out.trans0 hk5); have c5 := hb5.cell (i := 3) rfl; clear hb5 hk5)
          | (go_at_call 31; refine (HNUM.out bw _ (HK5.out.blk HB1.out (by simp))).mono ?_; rintro e w6 h6; obtain ⟨hk6, rfl⟩ := h6; have HK6 := hx (HK1.out.trans0 (HK5.out.trans0 hk6)); clear hk6))
        go_ret2
        exact ⟨HK6.out, rfl⟩
      | some ns =>
        rw [ho] at HNUM
        have hnl : ns.length = 2 := by
          by_cases hh : ws.length = 2
          · rw [if_pos hh] at ho
            rw [(readAll_some ho).1, hh]
          · rw [if_neg hh] at ho
            simp at ho
        clear ho
        obtain ⟨a, b, rfl⟩ : ∃ a b, ns = [a, b] := by
          match ns, hnl with
          | [a, b], _ => exact ⟨a, b, rfl⟩
        clear hnl
        cases hs : smallI a with
        | false =>
          have HOK := hx (show ¬ okN 3 [a, b] = true by show ¬ (smallI a && smallI b) = true; rw [hs]; simp)
          dsimp only
          rw [if_neg HOK.out]
          clear HOK
          go_enter Tryd.func41, Tryd.ntmps41
          go_upto_region 2 with (go_at_call 30; refine HS.out.mono ?_; rintro e w1 ⟨bw, rfl, hbw, hb1, hk1⟩; have HB1 := hx hb1; have HK1 := hx hk1; clear hb1 hk1)
          have HSK := hx (fun (w3 : World) (hk : Kept [] w1 w3) => show (fun w3 : World => w3.cell? ⟨bw, 0, none⟩ = some (txt w0)) w3 from (hk.blk HB1.out (by simp)).cell (i := 0) rfl)
          clear HS
          refine wp_region_held_drew (S := (fun w3 => w3.cell? ⟨bw, 0, none⟩ = some (txt w0))) (by kernel_rfl) (HSK.out _ ((Kept.refl [] w1).drew)) (fun hHeld => ?_)
          refine take_by 0 11 (v := ?_) rfl rfl (by kernel_rfl) (by kernel_rfl) (by kernel_rfl) (fun _ _ _ h => h) (Or.inl ⟨by rfl, ?_⟩) (by assumption) ?_
          rotate_left
          · (intro w hSw; (try dsimp only at hSw); go_simp; try with_reducible rfl)
          try simp only [List.setIfInBounds_toArray, List.set_cons_zero, List.set_cons_succ]
          refine take_by 1 12 (v := ?_) rfl rfl (by kernel_rfl) (by kernel_rfl) (by kernel_rfl) (fun _ _ _ h => h) (Or.inl ⟨by rfl, ?_⟩) (by assumption) ?_
          rotate_left
          · (intro w hSw; (try dsimp only at hSw); go_simp; try with_reducible rfl)
          try simp only [List.setIfInBounds_toArray, List.set_cons_zero, List.set_cons_succ]
          refine take_by 2 13 (v := ?_) rfl rfl (by kernel_rfl) (by kernel_rfl) (by kernel_rfl) (fun _ _ _ h => h) (Or.inl ⟨by rfl, ?_⟩) (by assumption) ?_
          rotate_left
          · (intro w hSw; (try dsimp only at hSw); go_simp; try with_reducible rfl)
          try simp only [List.setIfInBounds_toArray, List.set_cons_zero, List.set_cons_succ]
          refine take_by 4 15 (v := ?_) rfl rfl (by kernel_rfl) (by kernel_rfl) (by kernel_rfl) (fun _ _ _ h => h) (Or.inl ⟨by rfl, ?_⟩) (by assumption) ?_
          rotate_left
          · (intro w hSw; (try dsimp only at hSw); go_simp; try with_reducible rfl)
          try simp only [List.setIfInBounds_toArray, List.set_cons_zero, List.set_cons_succ]
          refine wpAnyH_ready (rs := [3]) (by kernel_rfl) (by simp) ?_
          refine AllReadyH.cons rfl (fun K hK => ?_) AllReadyH.nil
          go_simp
          (go_at_call 36; refine (HH.out _).mono ?_; rintro e w4 ⟨g, rfl, hb4, hk4⟩; have HK4 := hx (show Kept [] w1 w4 from (Kept.drew (Kept.refl [] w1)).trans0 hk4); have c4 := hb4.cell (i := 3) rfl; have hS4 := HSK.out _ HK4.out)
          refine hK.out _ _ (hS4) (fun hHeld => ?_)
          clear hK K
          try simp only [Act.put, List.setIfInBounds_toArray, List.set_cons_zero, List.set_cons_succ]
          refine take_by 5 16 (v := ?_) rfl rfl (by kernel_rfl) (by kernel_rfl) (by kernel_rfl) (fun _ _ _ h => h) (Or.inl ⟨by rfl, ?_⟩) (by assumption) ?_
          rotate_left
          · (intro w hSw; (try dsimp only at hSw); go_simp; try with_reducible rfl)
          try simp only [List.setIfInBounds_toArray, List.set_cons_zero, List.set_cons_succ]
          refine wpAnyH_ready (rs := [6]) (by kernel_rfl) (by simp) ?_
          refine AllReadyH.cons rfl (fun K hK => ?_) AllReadyH.nil
          go_simp
          refine hK.out _ _ (hS4) (fun hHeld => ?_)
          clear hK K
          try simp only [Act.put, List.setIfInBounds_toArray, List.set_cons_zero, List.set_cons_succ]
          refine take_by 7 18 (v := ?_) rfl rfl (by kernel_rfl) (by kernel_rfl) (by kernel_rfl) (fun _ _ _ h => h) (Or.inl ⟨by rfl, ?_⟩) (by assumption) ?_
          rotate_left
          · (intro w hSw; (try dsimp only at hSw); go_simp; try with_reducible rfl)
          try simp only [List.setIfInBounds_toArray, List.set_cons_zero, List.set_cons_succ]
          refine wpAnyH_done (by kernel_rfl) ?_ _
          clear HSK hS4 c4 HH
          go_wp2_with (first
            | (go_at_call 50; refine (HC.out _).mono ?_; rintro e w5 ⟨g5, rfl, hb5, hk5⟩; have HK5 := hx (show Kept [] w1 w5 from HK4.out.trans0 hk5); have c5 := hb5.cell (i := 3) rfl; clear hb5 hk5)
            | (go_at_call 31; refine (HNUM.out bw _ (HK5.out.blk HB1.out (by simp))).mono ?_; rintro e w6 h6; obtain ⟨hk6, u6, rfl, ho6⟩ := h6; have HO := hx (own_low ho6 (Nat.le_trans HK1.out.size HK5.out.size)); obtain ⟨g6, cap6, rfl, hg6, _, hc6⟩ := own_cells ho6 (by simp); have d0 := hc6 0 a rfl; have d1 := hc6 1 b rfl; have HK6 := hx (HK1.out.trans0 (HK5.out.trans0 hk6)); clear hk6 ho6 hc6 hg6)
            | (go_at_call 51; refine (HM.out _ _).mono ?_; rintro e w7 ⟨rfl, rfl⟩))
          go_ret2
          exact ⟨HK6.out, rfl⟩
        | true =>
          cases hs2 : smallI b with
          | false =>
            have HOK := hx (show ¬ okN 3 [a, b] = true by show ¬ (smallI a && smallI b) = true; rw [hs, hs2]; simp)
            dsimp only
            rw [if_neg HOK.out]
            clear HOK
            go_enter Tryd.func41, Tryd.ntmps41
            go_upto_region 2 with (go_at_call 30; refine HS.out.mono ?_; rintro e w1 ⟨bw, rfl, hbw, hb1, hk1⟩; have HB1 := hx hb1; have HK1 := hx hk1; clear hb1 hk1)
            have HSK := hx (fun (w3 : World) (hk : Kept [] w1 w3) => show (fun w3 : World => w3.cell? ⟨bw, 0, none⟩ = some (txt w0)) w3 from (hk.blk HB1.out (by simp)).cell (i := 0) rfl)
            clear HS
            refine wp_region_held_drew (S := (fun w3 => w3.cell? ⟨bw, 0, none⟩ = some (txt w0))) (by kernel_rfl) (HSK.out _ ((Kept.refl [] w1).drew)) (fun hHeld => ?_)
            refine take_by 0 11 (v := ?_) rfl rfl (by kernel_rfl) (by kernel_rfl) (by kernel_rfl) (fun _ _ _ h => h) (Or.inl ⟨by rfl, ?_⟩) (by assumption) ?_
            rotate_left
            · (intro w hSw; (try dsimp only at hSw); go_simp; try with_reducible rfl)
            try simp only [List.setIfInBounds_toArray, List.set_cons_zero, List.set_cons_succ]
            refine take_by 1 12 (v := ?_) rfl rfl (by kernel_rfl) (by kernel_rfl) (by kernel_rfl) (fun _ _ _ h => h) (Or.inl ⟨by rfl, ?_⟩) (by assumption) ?_
            rotate_left
            · (intro w hSw; (try dsimp only at hSw); go_simp; try with_reducible rfl)
            try simp only [List.setIfInBounds_toArray, List.set_cons_zero, List.set_cons_succ]
            refine take_by 2 13 (v := ?_) rfl rfl (by kernel_rfl) (by kernel_rfl) (by kernel_rfl) (fun _ _ _ h => h) (Or.inl ⟨by rfl, ?_⟩) (by assumption) ?_
            rotate_left
            · (intro w hSw; (try dsimp only at hSw); go_simp; try with_reducible rfl)
            try simp only [List.setIfInBounds_toArray, List.set_cons_zero, List.set_cons_succ]
            refine take_by 4 15 (v := ?_) rfl rfl (by kernel_rfl) (by kernel_rfl) (by kernel_rfl) (fun _ _ _ h => h) (Or.inl ⟨by rfl, ?_⟩) (by assumption) ?_
            rotate_left
            · (intro w hSw; (try dsimp only at hSw); go_simp; try with_reducible rfl)
            try simp only [List.setIfInBounds_toArray, List.set_cons_zero, List.set_cons_succ]
            refine wpAnyH_ready (rs := [3]) (by kernel_rfl) (by simp) ?_
            refine AllReadyH.cons rfl (fun K hK => ?_) AllReadyH.nil
            go_simp
            (go_at_call 36; refine (HH.out _).mono ?_; rintro e w4 ⟨g, rfl, hb4, hk4⟩; have HK4 := hx (show Kept [] w1 w4 from (Kept.drew (Kept.refl [] w1)).trans0 hk4); have c4 := hb4.cell (i := 3) rfl; have hS4 := HSK.out _ HK4.out)
            refine hK.out _ _ (hS4) (fun hHeld => ?_)
            clear hK K
            try simp only [Act.put, List.setIfInBounds_toArray, List.set_cons_zero, List.set_cons_succ]
            refine take_by 5 16 (v := ?_) rfl rfl (by kernel_rfl) (by kernel_rfl) (by kernel_rfl) (fun _ _ _ h => h) (Or.inl ⟨by rfl, ?_⟩) (by assumption) ?_
            rotate_left
            · (intro w hSw; (try dsimp only at hSw); go_simp; try with_reducible rfl)
            try simp only [List.setIfInBounds_toArray, List.set_cons_zero, List.set_cons_succ]
            refine wpAnyH_ready (rs := [6]) (by kernel_rfl) (by simp) ?_
            refine AllReadyH.cons rfl (fun K hK => ?_) AllReadyH.nil
            go_simp
            refine hK.out _ _ (hS4) (fun hHeld => ?_)
            clear hK K
            try simp only [Act.put, List.setIfInBounds_toArray, List.set_cons_zero, List.set_cons_succ]
            refine take_by 7 18 (v := ?_) rfl rfl (by kernel_rfl) (by kernel_rfl) (by kernel_rfl) (fun _ _ _ h => h) (Or.inl ⟨by rfl, ?_⟩) (by assumption) ?_
            rotate_left
            · (intro w hSw; (try dsimp only at hSw); go_simp; try with_reducible rfl)
            try simp only [List.setIfInBounds_toArray, List.set_cons_zero, List.set_cons_succ]
            refine wpAnyH_done (by kernel_rfl) ?_ _
            clear HSK hS4 c4 HH
            go_wp2_with (first
              | (go_at_call 50; refine (HC.out _).mono ?_; rintro e w5 ⟨g5, rfl, hb5, hk5⟩; have HK5 := hx (show Kept [] w1 w5 from HK4.out.trans0 hk5); have c5 := hb5.cell (i := 3) rfl; clear hb5 hk5)
              | (go_at_call 31; refine (HNUM.out bw _ (HK5.out.blk HB1.out (by simp))).mono ?_; rintro e w6 h6; obtain ⟨hk6, u6, rfl, ho6⟩ := h6; have HO := hx (own_low ho6 (Nat.le_trans HK1.out.size HK5.out.size)); obtain ⟨g6, cap6, rfl, hg6, _, hc6⟩ := own_cells ho6 (by simp); have d0 := hc6 0 a rfl; have d1 := hc6 1 b rfl; have HK6 := hx (HK1.out.trans0 (HK5.out.trans0 hk6)); clear hk6 ho6 hc6 hg6)
              | (go_at_call 51; refine (HM.out _ _).mono ?_; rintro e w7 ⟨rfl, rfl⟩))
            go_ret2
            exact ⟨HK6.out, rfl⟩
          | true =>
            have HOK := hx (show okN 3 [a, b] = true by show (smallI a && smallI b) = true; rw [hs, hs2]; rfl)
            dsimp only
            rw [if_pos HOK.out]
            clear HOK
            go_enter Tryd.func41, Tryd.ntmps41
            go_upto_region 2 with (go_at_call 30; refine HS.out.mono ?_; rintro e w1 ⟨bw, rfl, hbw, hb1, hk1⟩; have HB1 := hx hb1; have HK1 := hx hk1; clear hb1 hk1)
            have HSK := hx (fun (w3 : World) (hk : Kept [] w1 w3) => show (fun w3 : World => w3.cell? ⟨bw, 0, none⟩ = some (txt w0)) w3 from (hk.blk HB1.out (by simp)).cell (i := 0) rfl)
            clear HS
            refine wp_region_held_drew (S := (fun w3 => w3.cell? ⟨bw, 0, none⟩ = some (txt w0))) (by kernel_rfl) (HSK.out _ ((Kept.refl [] w1).drew)) (fun hHeld => ?_)
            refine take_by 0 11 (v := ?_) rfl rfl (by kernel_rfl) (by kernel_rfl) (by kernel_rfl) (fun _ _ _ h => h) (Or.inl ⟨by rfl, ?_⟩) (by assumption) ?_
            rotate_left
            · (intro w hSw; (try dsimp only at hSw); go_simp; try with_reducible rfl)
            try simp only [List.setIfInBounds_toArray, List.set_cons_zero, List.set_cons_succ]
            refine take_by 1 12 (v := ?_) rfl rfl (by kernel_rfl) (by kernel_rfl) (by kernel_rfl) (fun _ _ _ h => h) (Or.inl ⟨by rfl, ?_⟩) (by assumption) ?_
            rotate_left
            · (intro w hSw; (try dsimp only at hSw); go_simp; try with_reducible rfl)
            try simp only [List.setIfInBounds_toArray, List.set_cons_zero, List.set_cons_succ]
            refine take_by 2 13 (v := ?_) rfl rfl (by kernel_rfl) (by kernel_rfl) (by kernel_rfl) (fun _ _ _ h => h) (Or.inl ⟨by rfl, ?_⟩) (by assumption) ?_
            rotate_left
            · (intro w hSw; (try dsimp only at hSw); go_simp; try with_reducible rfl)
            try simp only [List.setIfInBounds_toArray, List.set_cons_zero, List.set_cons_succ]
            refine take_by 4 15 (v := ?_) rfl rfl (by kernel_rfl) (by kernel_rfl) (by kernel_rfl) (fun _ _ _ h => h) (Or.inl ⟨by rfl, ?_⟩) (by assumption) ?_
            rotate_left
            · (intro w hSw; (try dsimp only at hSw); go_simp; try with_reducible rfl)
            try simp only [List.setIfInBounds_toArray, List.set_cons_zero, List.set_cons_succ]
            refine wpAnyH_ready (rs := [3]) (by kernel_rfl) (by simp) ?_
            refine AllReadyH.cons rfl (fun K hK => ?_) AllReadyH.nil
            go_simp
            (go_at_call 36; refine (HH.out _).mono ?_; rintro e w4 ⟨g, rfl, hb4, hk4⟩; have HK4 := hx (show Kept [] w1 w4 from (Kept.drew (Kept.refl [] w1)).trans0 hk4); have c4 := hb4.cell (i := 3) rfl; have hS4 := HSK.out _ HK4.out)
            refine hK.out _ _ (hS4) (fun hHeld => ?_)
            clear hK K
            try simp only [Act.put, List.setIfInBounds_toArray, List.set_cons_zero, List.set_cons_succ]
            refine take_by 5 16 (v := ?_) rfl rfl (by kernel_rfl) (by kernel_rfl) (by kernel_rfl) (fun _ _ _ h => h) (Or.inl ⟨by rfl, ?_⟩) (by assumption) ?_
            rotate_left
            · (intro w hSw; (try dsimp only at hSw); go_simp; try with_reducible rfl)
            try simp only [List.setIfInBounds_toArray, List.set_cons_zero, List.set_cons_succ]
            refine wpAnyH_ready (rs := [6]) (by kernel_rfl) (by simp) ?_
            refine AllReadyH.cons rfl (fun K hK => ?_) AllReadyH.nil
            go_simp
            refine hK.out _ _ (hS4) (fun hHeld => ?_)
            clear hK K
            try simp only [Act.put, List.setIfInBounds_toArray, List.set_cons_zero, List.set_cons_succ]
            refine take_by 7 18 (v := ?_) rfl rfl (by kernel_rfl) (by kernel_rfl) (by kernel_rfl) (fun _ _ _ h => h) (Or.inl ⟨by rfl, ?_⟩) (by assumption) ?_
            rotate_left
            · (intro w hSw; (try dsimp only at hSw); go_simp; try with_reducible rfl)
            try simp only [List.setIfInBounds_toArray, List.set_cons_zero, List.set_cons_succ]
            refine wpAnyH_done (by kernel_rfl) ?_ _
            clear HSK hS4 c4 HH
            go_wp2_with (first
              | (go_at_call 50; refine (HC.out _).mono ?_; rintro e w5 ⟨g5, rfl, hb5, hk5⟩; have HK5 := hx (show Kept [] w1 w5 from HK4.out.trans0 hk5); have c5 := hb5.cell (i := 3) rfl; clear hb5 hk5)
              | (go_at_call 31; refine (HNUM.out bw _ (HK5.out.blk HB1.out (by simp))).mono ?_; rintro e w6 h6; obtain ⟨hk6, u6, rfl, ho6⟩ := h6; have HO := hx (own_low ho6 (Nat.le_trans HK1.out.size HK5.out.size)); obtain ⟨g6, cap6, rfl, hg6, _, hc6⟩ := own_cells ho6 (by simp); have d0 := hc6 0 a rfl; have d1 := hc6 1 b rfl; have HK6 := hx (HK1.out.trans0 (HK5.out.trans0 hk6)); clear hk6 ho6 hc6 hg6)
              | (go_at_call 51; refine (HM.out _ _).mono ?_; rintro e w7 ⟨rfl, rfl⟩))
            go_ret2
            exact ⟨HK6.out, _, rfl, HO.out⟩
    · rw [if_neg hw]
      have hne : (w0 == [109, 101, 101, 116]) = false := by simpa [headW] using hw
      clear hw HC HM
      go_enter Tryd.func41, Tryd.ntmps41
      go_upto_region 2 with (go_at_call 30; refine HS.out.mono ?_; rintro e w1 ⟨bw, rfl, hbw, hb1, hk1⟩; have HB1 := hx hb1; have HK1 := hx hk1; clear hb1 hk1)
      have HSK := hx (fun (w3 : World) (hk : Kept [] w1 w3) => show (fun w3 : World => w3.cell? ⟨bw, 0, none⟩ = some (txt w0)) w3 from (hk.blk HB1.out (by simp)).cell (i := 0) rfl)
      clear HS
      refine wp_region_held_drew (S := (fun w3 => w3.cell? ⟨bw, 0, none⟩ = some (txt w0))) (by kernel_rfl) (HSK.out _ ((Kept.refl [] w1).drew)) (fun hHeld => ?_)
      refine take_by 0 11 (v := ?_) rfl rfl (by kernel_rfl) (by kernel_rfl) (by kernel_rfl) (fun _ _ _ h => h) (Or.inl ⟨by rfl, ?_⟩) (by assumption) ?_
      rotate_left
      · (intro w hSw; (try dsimp only at hSw); go_simp; try with_reducible rfl)
      try simp only [List.setIfInBounds_toArray, List.set_cons_zero, List.set_cons_succ]
      refine take_by 1 12 (v := ?_) rfl rfl (by kernel_rfl) (by kernel_rfl) (by kernel_rfl) (fun _ _ _ h => h) (Or.inl ⟨by rfl, ?_⟩) (by assumption) ?_
      rotate_left
      · (intro w hSw; (try dsimp only at hSw); go_simp; try with_reducible rfl)
      try simp only [List.setIfInBounds_toArray, List.set_cons_zero, List.set_cons_succ]
      refine take_by 2 13 (v := ?_) rfl rfl (by kernel_rfl) (by kernel_rfl) (by kernel_rfl) (fun _ _ _ h => h) (Or.inl ⟨by rfl, ?_⟩) (by assumption) ?_
      rotate_left
      · (intro w hSw; (try dsimp only at hSw); go_simp; try with_reducible rfl)
      try simp only [List.setIfInBounds_toArray, List.set_cons_zero, List.set_cons_succ]
      refine take_by 4 15 (v := ?_) rfl rfl (by kernel_rfl) (by kernel_rfl) (by kernel_rfl) (fun _ _ _ h => h) (Or.inl ⟨by rfl, ?_⟩) (by assumption) ?_
      rotate_left
      · (intro w hSw; (try dsimp only at hSw); go_simp; try with_reducible rfl)
      try simp only [List.setIfInBounds_toArray, List.set_cons_zero, List.set_cons_succ]
      refine wpAnyH_ready (rs := [3]) (by kernel_rfl) (by simp) ?_
      refine AllReadyH.cons rfl (fun K hK => ?_) AllReadyH.nil
      go_simp
      (go_at_call 36; refine (HH.out _).mono ?_; rintro e w4 ⟨g, rfl, hb4, hk4⟩; have HK4 := hx (show Kept [] w1 w4 from (Kept.drew (Kept.refl [] w1)).trans0 hk4); have c4 := hb4.cell (i := 3) rfl; have hS4 := HSK.out _ HK4.out)
      refine hK.out _ _ (hS4) (fun hHeld => ?_)
      clear hK K
      try simp only [Act.put, List.setIfInBounds_toArray, List.set_cons_zero, List.set_cons_succ]
      refine take_by 5 16 (v := ?_) rfl rfl (by kernel_rfl) (by kernel_rfl) (by kernel_rfl) (fun _ _ _ h => h) (Or.inl ⟨by rfl, ?_⟩) (by assumption) ?_
      rotate_left
      · (intro w hSw; (try dsimp only at hSw); go_simp; try with_reducible rfl)
      try simp only [List.setIfInBounds_toArray, List.set_cons_zero, List.set_cons_succ]
      refine wpAnyH_ready (rs := [6]) (by kernel_rfl) (by simp) ?_
      refine AllReadyH.cons rfl (fun K hK => ?_) AllReadyH.nil
      go_simp
      refine hK.out _ _ (hS4) (fun hHeld => ?_)
      clear hK K
      try simp only [Act.put, List.setIfInBounds_toArray, List.set_cons_zero, List.set_cons_succ]
      refine take_by 7 18 (v := ?_) rfl rfl (by kernel_rfl) (by kernel_rfl) (by kernel_rfl) (fun _ _ _ h => h) (Or.inl ⟨by rfl, ?_⟩) (by assumption) ?_
      rotate_left
      · (intro w hSw; (try dsimp only at hSw); go_simp; try with_reducible rfl)
      try simp only [List.setIfInBounds_toArray, List.set_cons_zero, List.set_cons_succ]
      refine wpAnyH_done (by kernel_rfl) ?_ _
      go_wp2_with fail
      go_ret2
      exact ⟨HK1.out.trans0 HK4.out, rfl⟩
end Go.Proofs.YtdfbofkdlgfblaaDoor
