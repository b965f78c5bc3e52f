/- The document's Tell. -/
import Derived.Test.YtimplkdmhndalaaLtK
import Derived.Deep.CutBlock
namespace Go.Proofs.Ytimplkdmhndalaa
open Go Go.RowKit Go.Shelf
def RTeQ (a0 : Option Addr) (p : List Ply × Int) (w : World) (r : Ending) (w' : World) : Prop := Kept [] w w' ∧ ∃ a c, r = .returned (.tuple #[.slice a p.1.length c, .int .i64 p.2]) ∧ p.1.length ≤ c ∧ R5 w' a p.1 ∧ (a = a0 ∨ ∀ g o, a = some (⟨g, o, none⟩ : Addr) → w.heap.size ≤ g)
theorem own_empty5 {w : World} {base g : Nat} {T : TypeId} (hg : g = w.heap.size) (h : base ≤ w.heap.size) : (w.alloc (.cells #[] T)).ownsRow base T 5 (.slice (Option.some ⟨g, 0, none⟩) 0 0) 0 [] := by
  subst hg
  exact ⟨rfl, .inr ⟨_, 0, #[], rfl, h, Blk.new w [] T, Nat.le_refl _, by simp [maxLen], rfl, rfl⟩⟩
/-- The row behind so much that has gone over. -/
def rowM (l : List Ply) (i k : Nat) (m : Int) : List Ply := (l.set i (mkP (l.getD i pl0) ((l.getD i pl0).ma + m))).set k (mkP (l.getD k pl0) ((l.getD k pl0).ma - m))
theorem rowM_len (l : List Ply) (i k : Nat) (m : Int) : (rowM l i k m).length = l.length := by unfold rowM; rw [List.length_set, List.length_set]
theorem rowM_zero {l : List Ply} {i k : Nat} (hi : i < l.length) (hk : k < l.length) : rowM l i k 0 = l := by
  unfold rowM
  rw [show mkP (l.getD i pl0) ((l.getD i pl0).ma + 0) = l.getD i pl0 by rw [Int.add_zero]; rfl, show mkP (l.getD k pl0) ((l.getD k pl0).ma - 0) = l.getD k pl0 by rw [Int.sub_zero]; rfl]
  have e : ∀ {h : List Ply} {j : Nat}, j < h.length → h.set j (h.getD j pl0) = h := fun {h j} hj => by
    rw [List.getD_eq_getElem?_getD, List.getElem?_eq_getElem hj]
    exact List.set_getElem_self hj
  rw [e hi, e hk]
theorem rowM_i {l : List Ply} {i k : Nat} (hi : i < l.length) (hne : i ≠ k) (m : Int) : (rowM l i k m).getD i pl0 = mkP (l.getD i pl0) ((l.getD i pl0).ma + m) := by
  unfold rowM
  rw [getD_set_ne (Ne.symm hne), getD_set_eq hi]
theorem rowM_k {l : List Ply} {i k : Nat} (hk : k < l.length) (m : Int) : (rowM l i k m).getD k pl0 = mkP (l.getD k pl0) ((l.getD k pl0).ma - m) := by
  unfold rowM
  rw [getD_set_eq (by rw [List.length_set]; exact hk)]
theorem rowM_next {l : List Ply} {i k : Nat} (hne : i ≠ k) (m m2 : Int) : ((rowM l i k m).set i (mkP (l.getD i pl0) ((l.getD i pl0).ma + m2))).set k (mkP (l.getD k pl0) ((l.getD k pl0).ma - m2)) = rowM l i k m2 := by
  unfold rowM
  rw [List.set_comm _ _ (Ne.symm hne), List.set_set, List.set_set]
/-- A row that is written. -/
structure Wr (w W : World) (g c : Nat) (n : Nat) (h : List Ply) : Prop where
  own : W.ownsRow w.heap.size 44 5 (.slice (some ⟨g, 0, none⟩) n c) n (cel h)
  k : Kept [] w W
theorem Wr.len {w W : World} {g c n : Nat} {h : List Ply} (s : Wr w W g c n h) : n = h.length := by
  have := s.own.1
  rw [cel_len] at this
  omega
theorem Wr.set {w W : World} {g c n : Nat} {h : List Ply} (s : Wr w W g c n h) {i k : Nat} {x : Ply} {u : Value} (hi : i < h.length) (hk : k < 5) (hx : (enc5 (h.getD i pl0)).set k u = enc5 x) : Wr w (W.setCell ⟨g, i * 5 + k, none⟩ u) g c n (h.set i x) :=
  ⟨own_setP s.own hi hk hx, s.k.setCell (.inr (s.own.lt g rfl).1) u⟩
theorem Wr.kept {w W W2 : World} {g c n : Nat} {h : List Ply} (s : Wr w W g c n h) (hk : Kept [] W W2) : Wr w W2 g c n h :=
  ⟨own_kept3 s.own (fun g cs _ hg => hk.block g (Array.getElem?_eq_some_iff.1 hg).1 (by simp)), s.k.trans0 hk⟩
theorem cel_setAll {h : List Ply} {i : Nat} (z : Ply) (hi : i < h.length) : setAll (cel h) (i * 5) (enc5 z) = cel (h.set i z) := by
  apply List.ext_getElem?
  intro j
  rw [setAll_get _ _ _ (by rw [cel_len]; simp [enc5]; omega)]
  by_cases hj : j < h.length * 5
  · have h1 := cel_at h (j / 5) (by omega) (j % 5) (by omega)
    have h2 := cel_at (h.set i z) (j / 5) (by rw [List.length_set]; omega) (j % 5) (by omega)
    rw [show j / 5 * 5 + j % 5 = j by omega] at h1 h2
    rw [h1, h2]
    by_cases hji : j / 5 = i
    · subst hji
      rw [getD_set_eq (by omega), if_pos ⟨by omega, by simp [enc5]; omega⟩, show j - j / 5 * 5 = j % 5 by omega]
    · rw [getD_set_ne (Ne.symm hji), if_neg (by simp [enc5]; omega)]
  · have hl := cel_len (h.set i z)
    rw [List.length_set] at hl
    rw [if_neg (by simp [enc5]; omega), List.getElem?_eq_none (by rw [cel_len]; omega), List.getElem?_eq_none (by omega)]
theorem setAll_take5 (xs ys : List Value) (o m : Nat) (h : o + ys.length ≤ m) (hm : m ≤ xs.length) : (setAll xs o ys).take m = setAll (xs.take m) o ys := by
  apply List.ext_getElem?
  intro j
  rw [setAll_get _ _ _ (by simp; omega)]
  by_cases hj : j < m
  · rw [List.getElem?_take_of_lt hj, setAll_get _ _ _ (by omega), List.getElem?_take_of_lt hj]
  · rw [List.getElem?_eq_none (by simp; omega), if_neg (by omega), List.getElem?_eq_none (by simp; omega)]
theorem wp_store5 {P : Program} {w0 W : World} {g c n i : Nat} {h : List Ply} {o : Oper} {a : Act} {K : Act → World → Prop} {Q : Exit → Act → World → Prop} (ty : TypeId) (x y : Operand) (ho : o.op = .store ty x y)
    (s : Wr w0 W g c n h) (hi : i < h.length) (z : Ply) (hx : a.eval x = .pointer (some ⟨g, i * 5, none⟩)) (hy : a.eval y = .agg (enc5 z).toArray) (hinf : (P.info? ty).map (·.size) = some 5)
    (hk : ∀ W', Wr w0 W' g c n (h.set i z) → K (a.put o.dst undef) W') : o.wp P a W K Q := by
  have hn := s.len
  rcases s.own.2 with ⟨h1, _⟩ | ⟨g2, cap, cur, he, hb, hg, hnc, hcm, hcs, ht⟩
  · cases h1
  · simp only [Value.slice.injEq, Option.some.injEq, Addr.mk.injEq, and_true, true_and] at he
    obtain ⟨rfl, rfl⟩ := he
    have hB : Blk W g cur.toList 44 := hg
    have hle : i * 5 + 5 ≤ cur.toList.length := by simp; omega
    refine wp_store_mid ty x y ho g (i * 5) (enc5 z).toArray hx hy (hB.there (by simpa [enc5] using hle)) (by rw [hinf]; rfl) (all_oneCell_toArray (one_enc5 z)) (hk _ ⟨⟨?_, ?_⟩, s.k.setCells (.inr hb) _ _⟩)
    · rw [cel_len, List.length_set, hn]
    · refine .inr ⟨g, c, (setAll cur.toList (i * 5) (enc5 z)).toArray, rfl, hb, ?_, hnc, hcm, ?_, ?_⟩
      · exact hB.setCells (i * 5) (enc5 z)
      · rw [List.size_toArray, setAll_len]; simpa using hcs
      · rw [← cel_setAll z hi, ← ht]
        exact setAll_take5 _ _ _ _ (by simp [enc5]; omega) (by simp; omega)
theorem own_r5' {w : World} {base : Nat} {T : TypeId} {g n c : Nat} {l : List Ply} (ho : w.ownsRow base T 5 (.slice (some ⟨g, 0, none⟩) n c) n (cel l)) : R5 w (some ⟨g, 0, none⟩) l := by
  obtain ⟨hn, a, c2, he, _, hr⟩ := own_r5 ho
  simp only [Value.slice.injEq] at he
  rw [← he.1] at hr
  exact hr
set_option maxRecDepth 100000 in
set_option maxHeartbeats 12800000 in
theorem rtell_any (a : Option Addr) (c : Nat) (l : List Ply) (x y : List UInt8) (e t : Int) (w : World) (h : R5 w a l) (hlc : l.length ≤ c) (gd : Gd l t) (ht : t ≤ 1000) :
    Calls Try.prog 8 #[.slice a l.length c, txt x, txt y, .int .i64 e] w fun r w' => RTeQ a (tellP l x y e) w r w' := by
  obtain ⟨fv, hfv⟩ : ∃ fv : List UInt8 → Int, fv = fun n => plV n l := ⟨_, rfl⟩
  have HF := hx (fun (n : List UInt8) => by have h2 := rfind_any a c l n w h (by have := gd.len; omega); rw [show plV n l = fv n by rw [hfv]] at h2; exact h2.mono (fun _ _ ⟨h3, h4⟩ => ⟨h3, h4.symm⟩) : ∀ (n : List UInt8), Calls Try.prog 11 #[.slice a l.length c, txt n] w fun e w' => e = .returned (.int .i64 (fv n)) ∧ w = w')
  have HR := hx h
  have HG := hx gd
  have HLC := hx hlc
  clear h gd hlc
  obtain ⟨p, hp⟩ : ∃ p, tellP l x y e = p := ⟨_, rfl⟩
  rw [hp]
  have HP := hx hp
  have HSAME := hx (fun (cd : Int) (hc : p = (l, cd)) => show RTeQ a p w (.returned (.tuple #[.slice a l.length c, .int .i64 cd])) w by rw [hc]; exact ⟨Kept.refl _ _, a, c, rfl, HLC.out, HR.out, .inl rfl⟩)
  have hl32 : l.length ≤ 32 := HG.out.len
  clear hp
  cases ha : plAt x l with
  | none =>
    have HT := hx (show p = (l, 91) by rw [← HP.out]; unfold tellP; rw [ha])
    have fa : fv x = -1 := by rw [hfv]; show plV x l = -1; unfold plV; rw [ha]
    clear ha HP hfv
    generalize l.length = n at *
    go_enter Try.func8, Try.ntmps8
    go_wp2_with (go_at_call 11; refine (HF.out _).mono ?_; rintro r w1 ⟨rfl, rfl⟩)
    go_ret2
    exact HSAME.out 91 HT.out
  | some i =>
    have fa : fv x = (i : Int) := by rw [hfv]; show plV x l = _; unfold plV; rw [ha]
    obtain ⟨hi, _⟩ := plAt_some ha
    have hi32 : i < 32 := by omega
    cases hb : plAt y l with
    | none =>
      have HT := hx (show p = (l, 91) by rw [← HP.out]; unfold tellP; rw [ha, hb])
      have fb : fv y = -1 := by rw [hfv]; show plV y l = -1; unfold plV; rw [hb]
      clear ha hb HP hfv hi
      generalize l.length = n at *
      go_enter Try.func8, Try.ntmps8
      go_wp2_with (go_at_call 11; refine (HF.out _).mono ?_; rintro r w1 ⟨rfl, rfl⟩)
      go_ret2
      exact HSAME.out 91 HT.out
    | some k =>
      have fb : fv y = (k : Int) := by rw [hfv]; show plV y l = _; unfold plV; rw [hb]
      obtain ⟨hk, _⟩ := plAt_some hb
      have hk32 : k < 32 := by omega
      by_cases hik : i = k
      · have HT := hx (show p = (l, 91) by rw [← HP.out]; unfold tellP; rw [ha, hb]; exact if_pos hik)
        subst hik
        clear ha hb HP hfv hi hk
        generalize l.length = n at *
        go_enter Try.func8, Try.ntmps8
        go_wp2_with (go_at_call 11; refine (HF.out _).mono ?_; rintro r w1 ⟨rfl, rfl⟩)
        go_ret2
        exact HSAME.out 91 HT.out
      · obtain ⟨g, o, rfl⟩ := HR.out.addr (by omega)
        have hbik : ((i : Int) == (k : Int)) = false := by rw [beq_eq_false_iff_ne]; omega
        have hil : (i : Int) < (l.length : Int) := by omega
        have hkl : (k : Int) < (l.length : Int) := by omega
        have HIK := hx (And.intro hik (And.intro hi hk))
        have hPb := (HG.out.at_ hi).1
        have hRb := (HG.out.at_ hk).1
        obtain ⟨_, pm, _⟩ := HR.out.cells hi
        obtain ⟨_, qm, _⟩ := HR.out.cells hk
        by_cases he : e < 0 ∨ 2 < e
        · have HT := hx (show p = (l, 1) by rw [← HP.out]; unfold tellP; rw [ha, hb]; dsimp only; rw [if_neg hik, if_pos he])
          have HC := hx (fun W => (rchange_bad (l.getD i pl0).ma (l.getD k pl0).ma e W he).mono (fun _ _ ⟨h1, h2⟩ => And.intro h1 h2.symm))
          have HSAM2 := hx (fun (W : World) (hk : Kept [] w W) => show RTeQ (some ⟨g, o, none⟩) p w (.returned (.tuple #[.slice (some ⟨g, o, none⟩) l.length c, .int .i64 1])) W by rw [HT.out]; exact ⟨hk, _, c, rfl, HLC.out, HR.out.kept hk, .inl rfl⟩)
          generalize (l.getD i pl0).ma = P at *
          generalize (l.getD k pl0).ma = R at *
          clear ha hb HP hfv hi hk hik he HSAME
          generalize l.length = n at *
          go_enter Try.func8, Try.ntmps8
          go_upto_region 4 with (go_at_call 11; refine (HF.out _).mono ?_; rintro r w1 ⟨rfl, rfl⟩)
          go_quiet (first | (go_at_call 18; refine Calls.quiet_of_same (HC.out _)))
          go_wp2_with fail
          go_ret2
          exact HSAM2.out _ (Kept.drewN (Kept.refl [] w) _)
        · have HT := hx (show p = (gameP l i k (cngP l i k e) e, 0) by rw [← HP.out]; unfold tellP; rw [ha, hb]; dsimp only; rw [if_neg hik, if_neg he])
          have h0e : 0 ≤ e := by omega
          have h2e : e ≤ 2 := by omega
          have hnb := changeI_bd (l.getD i pl0).ma (l.getD k pl0).ma e h0e h2e
          have HC := hx (fun W => rchange_any (l.getD i pl0).ma (l.getD k pl0).ma e W (by unfold Fits; omega) (by unfold Fits; omega) h0e h2e)
          have HCN := hx (show cngP l i k e = changeI (l.getD i pl0).ma (l.getD k pl0).ma e from rfl)
          generalize changeI (l.getD i pl0).ma (l.getD k pl0).ma e = N at *
          obtain ⟨P, hP⟩ : ∃ P, (l.getD i pl0).ma = P := ⟨_, rfl⟩
          obtain ⟨R, hR⟩ : ∃ R, (l.getD k pl0).ma = R := ⟨_, rfl⟩
          rw [hP] at pm hPb HC
          rw [hR] at qm hRb HC
          have HPR := hx (And.intro hP hR)
          have HSK := hx (fun (w3 : World) (hk3 : Kept [] w w3) => show (fun w3 => w3.cell? ⟨g, o + i * 5 + 1, none⟩ = some (.int .i64 P) ∧ w3.cell? ⟨g, o + k * 5 + 1, none⟩ = some (.int .i64 R)) w3 from ⟨by have h := ((HR.out.kept hk3).cells hi).2.1; rwa [hP] at h, by have h := ((HR.out.kept hk3).cells hk).2.1; rwa [hR] at h⟩)
          clear ha hb HP hfv hi hk hik he HSAME hP hR
          go_enter Try.func8, Try.ntmps8
          go_upto_region 4 with (go_at_call 11; refine (HF.out _).mono ?_; rintro r w1 ⟨rfl, rfl⟩)
          refine wp_region_held_drew (S := (fun w3 => w3.cell? ⟨g, o + i * 5 + 1, none⟩ = some (.int .i64 P) ∧ w3.cell? ⟨g, o + k * 5 + 1, none⟩ = some (.int .i64 R))) (by kernel_rfl) (HSK.out _ ((Kept.refl [] w).drew)) (fun hHeld => ?_)
          refine take_by 0 34 (v := ?_) rfl rfl (by kernel_rfl) (by kernel_rfl) (by kernel_rfl) (fun _ _ _ h => h) (Or.inl ⟨by rfl, ?_⟩) (by assumption) ?_
          rotate_left
          · (intro w hSw; (try dsimp only at hSw); go_simp; try with_reducible rfl)
          try simp only [List.setIfInBounds_toArray, List.set_cons_zero, List.set_cons_succ]
          refine take_by 1 35 (v := ?_) rfl rfl (by kernel_rfl) (by kernel_rfl) (by kernel_rfl) (fun _ _ _ h => h) (Or.inl ⟨by rfl, ?_⟩) (by assumption) ?_
          rotate_left
          · (intro w hSw; (try dsimp only at hSw); go_simp; try with_reducible rfl)
          try simp only [List.setIfInBounds_toArray, List.set_cons_zero, List.set_cons_succ]
          refine take_by 2 36 (v := ?_) rfl rfl (by kernel_rfl) (by kernel_rfl) (by kernel_rfl) (fun _ _ _ h => h) (Or.inl ⟨by rfl, ?_⟩) (by assumption) ?_
          rotate_left
          · (intro w hSw; (try dsimp only at hSw); go_simp; try with_reducible rfl)
          try simp only [List.setIfInBounds_toArray, List.set_cons_zero, List.set_cons_succ]
          refine take_by 3 37 (v := ?_) rfl rfl (by kernel_rfl) (by kernel_rfl) (by kernel_rfl) (fun _ _ _ h => h) (Or.inl ⟨by rfl, ?_⟩) (by assumption) ?_
          rotate_left
          · (intro w hSw; (try dsimp only at hSw); go_simp; try with_reducible rfl)
          try simp only [List.setIfInBounds_toArray, List.set_cons_zero, List.set_cons_succ]
          refine take_by 4 38 (v := ?_) rfl rfl (by kernel_rfl) (by kernel_rfl) (by kernel_rfl) (fun _ _ _ h => h) (Or.inl ⟨by rfl, ?_⟩) (by assumption) ?_
          rotate_left
          · (intro w hSw; (try dsimp only at hSw); go_simp; try with_reducible rfl)
          try simp only [List.setIfInBounds_toArray, List.set_cons_zero, List.set_cons_succ]
          refine take_by 5 39 (v := ?_) rfl rfl (by kernel_rfl) (by kernel_rfl) (by kernel_rfl) (fun _ _ _ h => h) (Or.inl ⟨by rfl, ?_⟩) (by assumption) ?_
          rotate_left
          · (intro w hSw; (try dsimp only at hSw); go_simp; try with_reducible rfl)
          try simp only [List.setIfInBounds_toArray, List.set_cons_zero, List.set_cons_succ]
          refine take_by 6 40 (v := ?_) rfl rfl (by kernel_rfl) (by kernel_rfl) (by kernel_rfl) (fun _ _ _ h => h) (Or.inl ⟨by rfl, ?_⟩) (by assumption) ?_
          rotate_left
          · (intro w hSw; (try dsimp only at hSw); go_simp; try with_reducible rfl)
          try simp only [List.setIfInBounds_toArray, List.set_cons_zero, List.set_cons_succ]
          refine take_by 7 41 (v := ?_) rfl rfl (by kernel_rfl) (by kernel_rfl) (by kernel_rfl) (fun _ _ _ h => h) (Or.inl ⟨by rfl, ?_⟩) (by assumption) ?_
          rotate_left
          · (intro w hSw; (try dsimp only at hSw); go_simp; try with_reducible rfl)
          try simp only [List.setIfInBounds_toArray, List.set_cons_zero, List.set_cons_succ]
          refine take_by 8 42 (v := ?_) rfl rfl (by kernel_rfl) (by kernel_rfl) (by kernel_rfl) (fun _ _ _ h => h) (Or.inl ⟨by rfl, ?_⟩) (by assumption) ?_
          rotate_left
          · (intro w hSw; (try dsimp only at hSw); go_simp; try with_reducible rfl)
          try simp only [List.setIfInBounds_toArray, List.set_cons_zero, List.set_cons_succ]
          refine take_by 9 43 (v := ?_) rfl rfl (by kernel_rfl) (by kernel_rfl) (by kernel_rfl) (fun _ _ _ h => h) (Or.inl ⟨by rfl, ?_⟩) (by assumption) ?_
          rotate_left
          · (intro w hSw; (try dsimp only at hSw); go_simp; try with_reducible rfl)
          try simp only [List.setIfInBounds_toArray, List.set_cons_zero, List.set_cons_succ]
          refine take_by 10 44 (v := ?_) rfl rfl (by kernel_rfl) (by kernel_rfl) (by kernel_rfl) (fun _ _ _ h => h) (Or.inl ⟨by rfl, ?_⟩) (by assumption) ?_
          rotate_left
          · (intro w hSw; (try dsimp only at hSw); go_simp; try with_reducible rfl)
          try simp only [List.setIfInBounds_toArray, List.set_cons_zero, List.set_cons_succ]
          refine wpAnyH_ready (rs := [11]) (by kernel_rfl) (by simp) ?_
          refine AllReadyH.cons rfl (fun K hK => ?_) AllReadyH.nil
          go_simp
          (go_at_call 18; refine (HC.out _).mono ?_; rintro r w1 ⟨rfl, hk1⟩; have K1 := hx (show Kept [] w w1 from (Kept.drew (Kept.refl [] w)).trans0 hk1); have hS1 := HSK.out _ K1.out; clear hk1)
          refine hK.out _ _ (hS1) (fun hHeld => ?_)
          clear hK K
          try simp only [Act.put, List.setIfInBounds_toArray, List.set_cons_zero, List.set_cons_succ]
          refine take_by 12 33 (v := ?_) rfl rfl (by kernel_rfl) (by kernel_rfl) (by kernel_rfl) (fun _ _ _ h => h) (Or.inl ⟨by rfl, ?_⟩) (by assumption) ?_
          rotate_left
          · (intro w hSw; (try dsimp only at hSw); go_simp; try with_reducible rfl)
          try simp only [List.setIfInBounds_toArray, List.set_cons_zero, List.set_cons_succ]
          refine take_by 13 46 (v := ?_) rfl rfl (by kernel_rfl) (by kernel_rfl) (by kernel_rfl) (fun _ _ _ h => h) (Or.inl ⟨by rfl, ?_⟩) (by assumption) ?_
          rotate_left
          · (intro w hSw; (try dsimp only at hSw); go_simp; try with_reducible rfl)
          try simp only [List.setIfInBounds_toArray, List.set_cons_zero, List.set_cons_succ]
          refine take_by 14 47 (v := ?_) rfl rfl (by kernel_rfl) (by kernel_rfl) (by kernel_rfl) (fun _ _ _ h => h) (Or.inl ⟨by rfl, ?_⟩) (by assumption) ?_
          rotate_left
          · (intro w hSw; (try dsimp only at hSw); go_simp; try with_reducible rfl)
          try simp only [List.setIfInBounds_toArray, List.set_cons_zero, List.set_cons_succ]
          refine take_by 15 12 (v := ?_) rfl rfl (by kernel_rfl) (by kernel_rfl) (by kernel_rfl) (fun _ _ _ h => h) (Or.inl ⟨by rfl, ?_⟩) (by assumption) ?_
          rotate_left
          · (intro w hSw; (try dsimp only at hSw); go_simp; try with_reducible rfl)
          try simp only [List.setIfInBounds_toArray, List.set_cons_zero, List.set_cons_succ]
          refine take_by 16 13 (v := ?_) rfl rfl (by kernel_rfl) (by kernel_rfl) (by kernel_rfl) (fun _ _ _ h => h) (Or.inl ⟨by rfl, ?_⟩) (by assumption) ?_
          rotate_left
          · (intro w hSw; (try dsimp only at hSw); go_simp; try with_reducible rfl)
          try simp only [List.setIfInBounds_toArray, List.set_cons_zero, List.set_cons_succ]
          refine wpAnyH_done (by kernel_rfl) ?_ _
          go_upto_block 0 with (at_builtin; refine wpList_app rfl (.tmp 52) (.tmp 53) 29 rfl w.heap.size 44 (.agg #[.string ByteArray.empty, .int .i64 0, .int .i64 0, .int .i64 0, .int .i64 0]) 5 48 infoRl Try.underlying29 rfl (by omega) (.slice (some ⟨w1.heap.size, 0, none⟩) 0 0) 0 [] rfl (own_empty5 rfl K1.out.size) (some ⟨g, o, none⟩) l.length c (cel l) rfl (cel_len l) (by simp) HLC.out (fun ad he j u hj => by simp only [Option.some.injEq] at he; subst he; rw [Addr.add_mid]; exact (HR.out.kept (K1.out.alloc (.cells #[] 44))).all j u hj) (cel_one l) (by simp [maxLen]; omega) (by omega) (by have := K1.out.size; simp; omega) ?_; intro v8 w8 ho8 hg8; rw [Nat.zero_add, List.nil_append] at ho8; obtain ⟨_, va, vc, rfl, hvc, _⟩ := own_r5 ho8; have HO8 := hx ho8; have K8 := hx ((K1.out.alloc (.cells #[] 44)).grown hg8 (fun j hj => by simp [Value.ownBlock] at hj; subst hj; exact .inr K1.out.size)); clear ho8 hg8)
          clear hS1 pm qm HC HSK
          obtain ⟨gb, rfl⟩ : ∃ gb, va = some ⟨gb, 0, none⟩ := by
            rcases HO8.out.2 with ⟨h1, h2⟩ | ⟨g2, cap, cur, he, _⟩
            · exfalso; omega
            · simp only [Value.slice.injEq] at he
              exact ⟨g2, he.1⟩
          have W0 := hx (show Wr w w8 gb vc l.length (rowM l i k 0) from ⟨by rw [rowM_zero HIK.out.2.1 HIK.out.2.2]; exact HO8.out, K8.out⟩)
          have HVC := hx hvc
          have HPR2 := hx (And.intro hPb hRb)
          clear HO8 K8
          go_cut [12] from 55 to 91 (fun s12 wx => ∃ m : Int, s12 = .int .i64 (N - m) ∧ Hx ((0 ≤ m ∧ m ≤ max N 0) ∧ (0 ≤ P + m ∧ P + m ≤ 4000) ∧ (0 ≤ R - m ∧ R - m ≤ 4000) ∧ ¬ (0 < N - m ∧ P + m < 4000 ∧ 0 < R - m)) ∧ Wr w wx gb vc l.length (rowM l i k m))
          case first =>
            go_wp2_with fail
            go_loopw [12] (fun s12 wr => ∃ m : Int, s12 = .int .i64 (N - m) ∧ Hx ((0 ≤ m ∧ m ≤ max N 0) ∧ (0 ≤ P + m ∧ P + m ≤ 4000) ∧ (0 ≤ R - m ∧ R - m ≤ 4000)) ∧ Wr w wr gb vc l.length (rowM l i k m)) (fun s12 _ => (intOf s12).toNat)
            case atStart => exact ⟨0, by simp, ⟨by omega, by omega, by omega⟩, W0.out⟩
            case round =>
              obtain ⟨m, rfl, hm, hW⟩ := hrel
              obtain ⟨⟨hm0, hm1⟩, ⟨hm2, hm3⟩, hm4, hm5⟩ := hm.out
              have hl1 : i < (rowM l i k m).length := by rw [rowM_len]; exact HIK.out.2.1
              have hl2 : k < (rowM l i k m).length := by rw [rowM_len]; exact HIK.out.2.2
              have pm := own_at5 hW.own hl1 (k := 1) (u := .int .i64 (P + m)) (by rw [rowM_i HIK.out.2.1 HIK.out.1, HPR.out.1]; rfl)
              have qm := own_at5 hW.own hl2 (k := 1) (u := .int .i64 (R - m)) (by rw [rowM_k HIK.out.2.2, HPR.out.2]; rfl)
              have pf := own_free hW.own (i * 5 + 1)
              have HW := hx hW
              have HMM := hx hm
              clear hW hl1 hl2
              by_cases h1 : 0 < N - m
              · have bh1 : decide (0 < N - m) = true := by simpa using h1
                by_cases h2 : P + m < 4000
                · have bh2 : decide (P + m < 4000) = true := by simpa using h2
                  by_cases h3 : 0 < R - m
                  · have bh3 : decide (0 < R - m) = true := by simpa using h3
                    go_upto_region 10 with fail
                    have W1 := hx (HW.out.set (i := i) (k := 1) (x := mkP (l.getD i pl0) (P + (m + 1))) (u := .int .i64 (P + (m + 1))) (by rw [rowM_len]; exact HIK.out.2.1) (by omega) (by rw [rowM_i HIK.out.2.1 HIK.out.1]; rfl))
                    rw [show P + m + 1 = P + (m + 1) by omega]
                    clear pm qm pf HW
                    generalize World.setCell wr _ _ = Wa at *
                    have hl2 : k < ((rowM l i k m).set i (mkP (l.getD i pl0) (P + (m + 1)))).length := by rw [List.length_set, rowM_len]; exact HIK.out.2.2
                    have hk2 : ((rowM l i k m).set i (mkP (l.getD i pl0) (P + (m + 1)))).getD k pl0 = mkP (l.getD k pl0) (R - m) := by rw [getD_set_ne HIK.out.1, rowM_k HIK.out.2.2, HPR.out.2]
                    have qm := own_at5 W1.out.own hl2 (k := 1) (u := .int .i64 (R - m)) (by rw [hk2]; rfl)
                    have qf := own_free W1.out.own (k * 5 + 1)
                    go_upto_region 11 with fail
                    have W2 := hx (W1.out.set (i := k) (k := 1) (x := mkP (l.getD k pl0) (R - (m + 1))) (u := .int .i64 (R - (m + 1))) hl2 (by omega) (by rw [hk2]; rfl))
                    rw [show R - m - 1 = R - (m + 1) by omega]
                    clear hl2 hk2 qm qf W1
                    generalize World.setCell Wa _ _ = Wb at *
                    rw [show ((rowM l i k m).set i (mkP (l.getD i pl0) (P + (m + 1)))).set k (mkP (l.getD k pl0) (R - (m + 1))) = rowM l i k (m + 1) by rw [← HPR.out.1, ← HPR.out.2]; exact rowM_next HIK.out.1 m (m + 1)] at W2
                    go_wp2_with fail
                    go_roundw
                    case rel => exact ⟨m + 1, by rw [show N - m - 1 = N - (m + 1) by omega], ⟨by have := HMM.out.out; omega, by have := HMM.out.out; omega, by have := HMM.out.out; omega⟩, W2.out⟩
                    case measure =>
                      simp only [intOf]
                      omega
                  · have bh3 : decide (0 < R - m) = false := by simpa using h3
                    go_wp2_with fail
                    go_meet
                    exact ⟨m, rfl, ⟨by have := HMM.out.out; omega, by have := HMM.out.out; omega, by have := HMM.out.out; omega, by omega⟩, HW.out⟩
                · have bh2 : decide (P + m < 4000) = false := by simpa using h2
                  go_wp2_with fail
                  go_meet
                  exact ⟨m, rfl, ⟨by have := HMM.out.out; omega, by have := HMM.out.out; omega, by have := HMM.out.out; omega, by omega⟩, HW.out⟩
              · have bh1 : decide (0 < N - m) = false := by simpa using h1
                go_wp2_with fail
                go_meet
                exact ⟨m, rfl, ⟨by have := HMM.out.out; omega, by have := HMM.out.out; omega, by have := HMM.out.out; omega, by omega⟩, HW.out⟩
          case rest =>
            obtain ⟨m1, rfl, hm1, hW1⟩ := hcut
            have HM1 := hx hm1
            have HW1 := hx hW1
            clear hm1 hW1 W0
            go_upto_block 2 with fail
            go_cut [12] from 91 to 127 (fun s12 wx => ∃ n9 : Int, s12 = .int .i64 n9 ∧ Wr w wx gb vc l.length (rowM l i k (movI N P R)))
            case first =>
              go_wp2_with fail
              go_loopw [12] (fun s12 wr => ∃ m : Int, s12 = .int .i64 (N - m) ∧ Hx ((min N 0 ≤ m ∧ m ≤ max N 0) ∧ (0 ≤ P + m ∧ P + m ≤ 4000) ∧ (0 ≤ R - m ∧ R - m ≤ 4000) ∧ ¬ (0 < N - m ∧ P + m < 4000 ∧ 0 < R - m)) ∧ Wr w wr gb vc l.length (rowM l i k m)) (fun s12 _ => (- intOf s12).toNat)
              case atStart => exact ⟨m1, rfl, ⟨by have := HM1.out.out; omega, by have := HM1.out.out; omega, by have := HM1.out.out; omega, by have := HM1.out.out; omega⟩, HW1.out⟩
              case round =>
                obtain ⟨m, rfl, hm, hW⟩ := hrel
                obtain ⟨⟨hm0, hm1⟩, ⟨hm2, hm3⟩, ⟨hm4, hm5⟩, hm6⟩ := hm.out
                clear hm6
                have hl1 : i < (rowM l i k m).length := by rw [rowM_len]; exact HIK.out.2.1
                have hl2 : k < (rowM l i k m).length := by rw [rowM_len]; exact HIK.out.2.2
                have pm := own_at5 hW.own hl1 (k := 1) (u := .int .i64 (P + m)) (by rw [rowM_i HIK.out.2.1 HIK.out.1, HPR.out.1]; rfl)
                have qm := own_at5 hW.own hl2 (k := 1) (u := .int .i64 (R - m)) (by rw [rowM_k HIK.out.2.2, HPR.out.2]; rfl)
                have pf := own_free hW.own (i * 5 + 1)
                have HW := hx hW
                have HMM := hx hm
                clear hW hl1 hl2
                by_cases h1 : N - m < 0
                · have bh1 : decide (N - m < 0) = true := by simpa using h1
                  by_cases h2 : 0 < P + m
                  · have bh2 : decide (0 < P + m) = true := by simpa using h2
                    by_cases h3 : R - m < 4000
                    · have bh3 : decide (R - m < 4000) = true := by simpa using h3
                      go_upto_region 14 with fail
                      have W1 := hx (HW.out.set (i := i) (k := 1) (x := mkP (l.getD i pl0) (P + (m - 1))) (u := .int .i64 (P + (m - 1))) (by rw [rowM_len]; exact HIK.out.2.1) (by omega) (by rw [rowM_i HIK.out.2.1 HIK.out.1]; rfl))
                      rw [show P + m - 1 = P + (m - 1) by omega]
                      clear pm qm pf HW
                      generalize World.setCell wr _ _ = Wa at *
                      have hl2 : k < ((rowM l i k m).set i (mkP (l.getD i pl0) (P + (m - 1)))).length := by rw [List.length_set, rowM_len]; exact HIK.out.2.2
                      have hk2 : ((rowM l i k m).set i (mkP (l.getD i pl0) (P + (m - 1)))).getD k pl0 = mkP (l.getD k pl0) (R - m) := by rw [getD_set_ne HIK.out.1, rowM_k HIK.out.2.2, HPR.out.2]
                      have qm := own_at5 W1.out.own hl2 (k := 1) (u := .int .i64 (R - m)) (by rw [hk2]; rfl)
                      have qf := own_free W1.out.own (k * 5 + 1)
                      go_upto_region 15 with fail
                      have W2 := hx (W1.out.set (i := k) (k := 1) (x := mkP (l.getD k pl0) (R - (m - 1))) (u := .int .i64 (R - (m - 1))) hl2 (by omega) (by rw [hk2]; rfl))
                      rw [show R - m + 1 = R - (m - 1) by omega]
                      clear hl2 hk2 qm qf W1
                      generalize World.setCell Wa _ _ = Wb at *
                      rw [show ((rowM l i k m).set i (mkP (l.getD i pl0) (P + (m - 1)))).set k (mkP (l.getD k pl0) (R - (m - 1))) = rowM l i k (m - 1) by rw [← HPR.out.1, ← HPR.out.2]; exact rowM_next HIK.out.1 m (m - 1)] at W2
                      go_wp2_with fail
                      go_roundw
                      case rel => exact ⟨m - 1, by rw [show N - m + 1 = N - (m - 1) by omega], ⟨by have := HMM.out.out; omega, by have := HMM.out.out; omega, by have := HMM.out.out; omega, by have := HMM.out.out; omega⟩, W2.out⟩
                      case measure =>
                        simp only [intOf]
                        omega
                    · have bh3 : decide (R - m < 4000) = false := by simpa using h3
                      go_wp2_with fail
                      go_meet
                      exact ⟨N - m, rfl, by rw [show movI N P R = m by have := HMM.out.out; have := HPR2.out; unfold movI; omega]; exact HW.out⟩
                  · have bh2 : decide (0 < P + m) = false := by simpa using h2
                    go_wp2_with fail
                    go_meet
                    exact ⟨N - m, rfl, by rw [show movI N P R = m by have := HMM.out.out; have := HPR2.out; unfold movI; omega]; exact HW.out⟩
                · have bh1 : decide (N - m < 0) = false := by simpa using h1
                  go_wp2_with fail
                  go_meet
                  exact ⟨N - m, rfl, by rw [show movI N P R = m by have := HMM.out.out; have := HPR2.out; unfold movI; omega]; exact HW.out⟩
            case rest =>
              obtain ⟨n9, rfl, hWf⟩ := hcut
              have hl1 : i < (rowM l i k (movI N P R)).length := by rw [rowM_len]; exact HIK.out.2.1
              have hl2 : k < (rowM l i k (movI N P R)).length := by rw [rowM_len]; exact HIK.out.2.2
              have hg1 := rowM_i HIK.out.2.1 HIK.out.1 (movI N P R)
              have hg2 := rowM_k (i := i) HIK.out.2.2 (movI N P R)
              have hlr := rowM_len l i k (movI N P R)
              have HFIN := hx (show gameP l i k N e = ((rowM l i k (movI N P R)).set i (cntP ((rowM l i k (movI N P R)).getD i pl0) e)).set k (cntP ((rowM l i k (movI N P R)).getD k pl0) (2 - e)) by
                rw [hg1, hg2]
                unfold gameP rowM
                rw [HPR.out.1, HPR.out.2, List.set_comm _ _ (Ne.symm HIK.out.1), List.set_set, List.set_set])
              have hb1 := (HG.out.at_ HIK.out.2.1).2
              have hb2 := (HG.out.at_ HIK.out.2.2).2
              have HCX := hx (fun W => rcount_any ((rowM l i k (movI N P R)).getD i pl0) e W h0e h2e (by rw [hg1]; simp only [mkP]; omega))
              have HCY := hx (fun W => rcount_any ((rowM l i k (movI N P R)).getD k pl0) (2 - e) W (by omega) (by omega) (by rw [hg2]; simp only [mkP]; omega))
              generalize hrm : rowM l i k (movI N P R) = h9 at *
              have HLN := hx (And.intro hl1 (And.intro hl2 hlr))
              have HWF := hx hWf
              have HFX := hx (fun (W : World) (hk : Kept [] wc W) => own_five (own_kept3 hWf.own (fun g cs _ hg => hk.block g (Array.getElem?_eq_some_iff.1 hg).1 (by simp)) : W.ownsRow w.heap.size 44 5 (.slice (some ⟨gb, 0, none⟩) l.length vc) l.length (cel h9)) hl1)
              have HFY := hx (fun (W : World) (hk : Kept [] wc W) => own_five (own_kept3 hWf.own (fun g cs _ hg => hk.block g (Array.getElem?_eq_some_iff.1 hg).1 (by simp)) : W.ownsRow w.heap.size 44 5 (.slice (some ⟨gb, 0, none⟩) l.length vc) l.length (cel h9)) hl2)
              generalize hX : h9.getD i pl0 = X at *
              generalize hY : h9.getD k pl0 = Y at *
              have HXY := hx (And.intro hX hY)
              simp only [agP] at HCX HCY
              generalize cntP X e = ZX at *
              generalize cntP Y (2 - e) = ZY at *
              clear hl1 hl2 hg1 hg2 hlr hb1 hb2 hrm hWf hX hY HM1 HW1
              have hw2 : IntKind.i64.wrap (2 - e) = 2 - e := IntWalk.i64_in _ (by omega)
              go_upto_region 16 with fail
              obtain ⟨a0, a1, a2, a3, a4⟩ := HFX.out wc (Kept.refl [] wc)
              obtain ⟨b0, b1, b2, b3, b4⟩ := HFY.out wc (Kept.refl [] wc)
              refine wp_region_held_drew (S := (fun _ => True)) (by kernel_rfl) (trivial) (fun hHeld => ?_)
              refine take_by 0 127 (v := ?_) rfl rfl (by kernel_rfl) (by kernel_rfl) (by kernel_rfl) (fun _ _ _ h => h) (Or.inl ⟨by rfl, ?_⟩) (by assumption) ?_
              rotate_left
              · (intro w hSw; (try dsimp only at hSw); go_simp; try with_reducible rfl)
              try simp only [List.setIfInBounds_toArray, List.set_cons_zero, List.set_cons_succ]
              refine take_by 1 128 (v := ?_) rfl rfl (by kernel_rfl) (by kernel_rfl) (by kernel_rfl) (fun _ _ _ h => h) (Or.inl ⟨by rfl, ?_⟩) (by assumption) ?_
              rotate_left
              · (intro w hSw; (try dsimp only at hSw); go_simp; try with_reducible rfl)
              try simp only [List.setIfInBounds_toArray, List.set_cons_zero, List.set_cons_succ]
              refine take_by 2 129 (v := ?_) rfl rfl (by kernel_rfl) (by kernel_rfl) (by kernel_rfl) (fun _ _ _ h => h) (Or.inl ⟨by rfl, ?_⟩) (by assumption) ?_
              rotate_left
              · (intro w hSw; (try dsimp only at hSw); go_simp; try with_reducible rfl)
              try simp only [List.setIfInBounds_toArray, List.set_cons_zero, List.set_cons_succ]
              refine take_by 3 130 (v := ?_) rfl rfl (by kernel_rfl) (by kernel_rfl) (by kernel_rfl) (fun _ _ _ h => h) (Or.inl ⟨by rfl, ?_⟩) (by assumption) ?_
              rotate_left
              · (intro w hSw; (try dsimp only at hSw); go_simp; try with_reducible rfl)
              try simp only [List.setIfInBounds_toArray, List.set_cons_zero, List.set_cons_succ]
              refine take_by 4 131 (v := ?_) rfl rfl (by kernel_rfl) (by kernel_rfl) (by kernel_rfl) (fun _ _ _ h => h) (Or.inl ⟨by rfl, ?_⟩) (by assumption) ?_
              rotate_left
              · (intro w hSw; (try dsimp only at hSw); go_simp; try with_reducible rfl)
              try simp only [List.setIfInBounds_toArray, List.set_cons_zero, List.set_cons_succ]
              refine take_by 5 132 (v := ?_) rfl rfl (by kernel_rfl) (by kernel_rfl) (by kernel_rfl) (fun _ _ _ h => h) (Or.inl ⟨by rfl, ?_⟩) (by assumption) ?_
              rotate_left
              · (intro w hSw; (try dsimp only at hSw); go_simp; try with_reducible rfl)
              try simp only [List.setIfInBounds_toArray, List.set_cons_zero, List.set_cons_succ]
              refine take_by 6 133 (v := ?_) rfl rfl (by kernel_rfl) (by kernel_rfl) (by kernel_rfl) (fun _ _ _ h => h) (Or.inl ⟨by rfl, ?_⟩) (by assumption) ?_
              rotate_left
              · (intro w hSw; (try dsimp only at hSw); go_simp; try with_reducible rfl)
              try simp only [List.setIfInBounds_toArray, List.set_cons_zero, List.set_cons_succ]
              refine take_by 8 135 (v := ?_) rfl rfl (by kernel_rfl) (by kernel_rfl) (by kernel_rfl) (fun _ _ _ h => h) (Or.inl ⟨by rfl, ?_⟩) (by assumption) ?_
              rotate_left
              · (intro w hSw; (try dsimp only at hSw); go_simp; try with_reducible rfl)
              try simp only [List.setIfInBounds_toArray, List.set_cons_zero, List.set_cons_succ]
              refine take_by 10 137 (v := ?_) rfl rfl (by kernel_rfl) (by kernel_rfl) (by kernel_rfl) (fun _ _ _ h => h) (Or.inl ⟨by rfl, ?_⟩) (by assumption) ?_
              rotate_left
              · (intro w hSw; (try dsimp only at hSw); go_simp; try with_reducible rfl)
              try simp only [List.setIfInBounds_toArray, List.set_cons_zero, List.set_cons_succ]
              refine take_by 11 138 (v := ?_) rfl rfl (by kernel_rfl) (by kernel_rfl) (by kernel_rfl) (fun _ _ _ h => h) (Or.inl ⟨by rfl, ?_⟩) (by assumption) ?_
              rotate_left
              · (intro w hSw; (try dsimp only at hSw); go_simp; try with_reducible rfl)
              try simp only [List.setIfInBounds_toArray, List.set_cons_zero, List.set_cons_succ]
              refine take_by 12 139 (v := ?_) rfl rfl (by kernel_rfl) (by kernel_rfl) (by kernel_rfl) (fun _ _ _ h => h) (Or.inl ⟨by rfl, ?_⟩) (by assumption) ?_
              rotate_left
              · (intro w hSw; (try dsimp only at hSw); go_simp; try with_reducible rfl)
              try simp only [List.setIfInBounds_toArray, List.set_cons_zero, List.set_cons_succ]
              refine take_by 14 141 (v := ?_) rfl rfl (by kernel_rfl) (by kernel_rfl) (by kernel_rfl) (fun _ _ _ h => h) (Or.inl ⟨by rfl, ?_⟩) (by assumption) ?_
              rotate_left
              · (intro w hSw; (try dsimp only at hSw); go_simp; try with_reducible rfl)
              try simp only [List.setIfInBounds_toArray, List.set_cons_zero, List.set_cons_succ]
              refine take_by 15 142 (v := ?_) rfl rfl (by kernel_rfl) (by kernel_rfl) (by kernel_rfl) (fun _ _ _ h => h) (Or.inl ⟨by rfl, ?_⟩) (by assumption) ?_
              rotate_left
              · (intro w hSw; (try dsimp only at hSw); go_simp; try with_reducible rfl)
              try simp only [List.setIfInBounds_toArray, List.set_cons_zero, List.set_cons_succ]
              refine wpAnyH_ready (rs := [7, 13]) (by kernel_rfl) (by simp) ?_
              refine AllReadyH.cons rfl (fun K hK => ?_) (AllReadyH.cons rfl (fun K hK => ?_) AllReadyH.nil)
              · go_simp
                refine hK.out _ _ trivial (fun _ => ?_)
                clear hK K
                try simp only [Act.put, List.setIfInBounds_toArray, List.set_cons_zero, List.set_cons_succ]
                refine wpAnyH_ready (rs := [9, 13]) (by kernel_rfl) (by simp) ?_
                refine AllReadyH.cons rfl (fun K hK => ?_) (AllReadyH.cons rfl (fun K hK => ?_) AllReadyH.nil)
                · go_simp
                  (go_at_call 19; refine (HCX.out _).mono ?_; rintro r wx ⟨rfl, hkx⟩; have KX := hx (show Kept [] wc wx from (Kept.drew (Kept.refl [] wc)).trans0 hkx); obtain ⟨d0, d1, d2, d3, d4⟩ := HFY.out wx KX.out; clear hkx)
                  refine hK.out _ _ trivial (fun _ => ?_)
                  clear hK K
                  try simp only [Act.put, List.setIfInBounds_toArray, List.set_cons_zero, List.set_cons_succ]
                  refine wpAnyH_ready (rs := [13]) (by kernel_rfl) (by simp) ?_
                  refine AllReadyH.cons rfl (fun K hK => ?_) AllReadyH.nil
                  go_simp
                  refine hK.out _ _ trivial (fun _ => ?_)
                  clear hK K
                  try simp only [Act.put, List.setIfInBounds_toArray, List.set_cons_zero, List.set_cons_succ]
                  refine wpAnyH_ready (rs := [16]) (by kernel_rfl) (by simp) ?_
                  refine AllReadyH.cons rfl (fun K hK => ?_) AllReadyH.nil
                  go_simp
                  (go_at_call 19; refine (HCY.out _).mono ?_; rintro r wy ⟨rfl, hky⟩; have KY := hx (KX.out.trans0 hky); clear hky)
                  refine hK.out _ _ trivial (fun _ => ?_)
                  clear hK K
                  try simp only [Act.put, List.setIfInBounds_toArray, List.set_cons_zero, List.set_cons_succ]
                  refine take_by 17 144 (v := ?_) rfl rfl (by kernel_rfl) (by kernel_rfl) (by kernel_rfl) (fun _ _ _ h => h) (Or.inl ⟨by rfl, ?_⟩) (by assumption) ?_
                  rotate_left
                  · (intro w hSw; (try dsimp only at hSw); go_simp; try with_reducible rfl)
                  try simp only [List.setIfInBounds_toArray, List.set_cons_zero, List.set_cons_succ]
                  refine wpAnyH_ready (rs := [18]) (by kernel_rfl) (by simp) ?_
                  refine AllReadyH.cons rfl (fun K hK => ?_) AllReadyH.nil
                  refine wp_store5 44 (.tmp 144) (.tmp 136) rfl (HWF.out.kept KY.out) HLN.out.1 ZX rfl rfl (by kernel_rfl) ?_
                  intro wa sa
                  have SA := hx sa
                  clear sa
                  refine hK.out _ _ trivial (fun _ => ?_)
                  clear hK K
                  try simp only [Act.put, List.setIfInBounds_toArray]
                  refine take_by 19 145 (v := ?_) rfl rfl (by kernel_rfl) (by kernel_rfl) (by kernel_rfl) (fun _ _ _ h => h) (Or.inl ⟨by rfl, ?_⟩) (by assumption) ?_
                  rotate_left
                  · (intro w hSw; (try dsimp only at hSw); go_simp; try with_reducible rfl)
                  try simp only [List.setIfInBounds_toArray, List.set_cons_zero, List.set_cons_succ]
                  refine wpAnyH_ready (rs := [20]) (by kernel_rfl) (by simp) ?_
                  refine AllReadyH.cons rfl (fun K hK => ?_) AllReadyH.nil
                  refine wp_store5 44 (.tmp 145) (.tmp 143) rfl SA.out (by rw [List.length_set]; exact HLN.out.2.1) ZY rfl rfl (by kernel_rfl) ?_
                  intro wb sb
                  have SB := hx sb
                  clear sb
                  refine hK.out _ _ trivial (fun _ => ?_)
                  clear hK K
                  try simp only [Act.put]
                  refine wpAnyH_done (by kernel_rfl) ?_ _
                  go_wp2_with fail
                  go_ret2
                  rw [HT.out, HCN.out, HFIN.out]
                  exact ⟨SB.out.k, _, vc, by rw [List.length_set, List.length_set, HLN.out.2.2]; rfl, by rw [List.length_set, List.length_set, HLN.out.2.2]; exact HVC.out, (own_r5' SB.out.own), .inr (fun g3 o3 e3 => by cases e3; exact (SB.out.own.lt gb rfl).1)⟩
                · go_simp
                  refine hK.out _ _ trivial (fun _ => ?_)
                  clear hK K
                  try simp only [Act.put, List.setIfInBounds_toArray, List.set_cons_zero, List.set_cons_succ]
                  refine wpAnyH_ready (rs := [9]) (by kernel_rfl) (by simp) ?_
                  refine AllReadyH.cons rfl (fun K hK => ?_) AllReadyH.nil
                  go_simp
                  (go_at_call 19; refine (HCX.out _).mono ?_; rintro r wx ⟨rfl, hkx⟩; have KX := hx (show Kept [] wc wx from (Kept.drew (Kept.refl [] wc)).trans0 hkx); obtain ⟨d0, d1, d2, d3, d4⟩ := HFY.out wx KX.out; clear hkx)
                  refine hK.out _ _ trivial (fun _ => ?_)
                  clear hK K
                  try simp only [Act.put, List.setIfInBounds_toArray, List.set_cons_zero, List.set_cons_succ]
                  refine wpAnyH_ready (rs := [16]) (by kernel_rfl) (by simp) ?_
                  refine AllReadyH.cons rfl (fun K hK => ?_) AllReadyH.nil
                  go_simp
                  (go_at_call 19; refine (HCY.out _).mono ?_; rintro r wy ⟨rfl, hky⟩; have KY := hx (KX.out.trans0 hky); clear hky)
                  refine hK.out _ _ trivial (fun _ => ?_)
                  clear hK K
                  try simp only [Act.put, List.setIfInBounds_toArray, List.set_cons_zero, List.set_cons_succ]
                  refine take_by 17 144 (v := ?_) rfl rfl (by kernel_rfl) (by kernel_rfl) (by kernel_rfl) (fun _ _ _ h => h) (Or.inl ⟨by rfl, ?_⟩) (by assumption) ?_
                  rotate_left
                  · (intro w hSw; (try dsimp only at hSw); go_simp; try with_reducible rfl)
                  try simp only [List.setIfInBounds_toArray, List.set_cons_zero, List.set_cons_succ]
                  refine wpAnyH_ready (rs := [18]) (by kernel_rfl) (by simp) ?_
                  refine AllReadyH.cons rfl (fun K hK => ?_) AllReadyH.nil
                  refine wp_store5 44 (.tmp 144) (.tmp 136) rfl (HWF.out.kept KY.out) HLN.out.1 ZX rfl rfl (by kernel_rfl) ?_
                  intro wa sa
                  have SA := hx sa
                  clear sa
                  refine hK.out _ _ trivial (fun _ => ?_)
                  clear hK K
                  try simp only [Act.put, List.setIfInBounds_toArray]
                  refine take_by 19 145 (v := ?_) rfl rfl (by kernel_rfl) (by kernel_rfl) (by kernel_rfl) (fun _ _ _ h => h) (Or.inl ⟨by rfl, ?_⟩) (by assumption) ?_
                  rotate_left
                  · (intro w hSw; (try dsimp only at hSw); go_simp; try with_reducible rfl)
                  try simp only [List.setIfInBounds_toArray, List.set_cons_zero, List.set_cons_succ]
                  refine wpAnyH_ready (rs := [20]) (by kernel_rfl) (by simp) ?_
                  refine AllReadyH.cons rfl (fun K hK => ?_) AllReadyH.nil
                  refine wp_store5 44 (.tmp 145) (.tmp 143) rfl SA.out (by rw [List.length_set]; exact HLN.out.2.1) ZY rfl rfl (by kernel_rfl) ?_
                  intro wb sb
                  have SB := hx sb
                  clear sb
                  refine hK.out _ _ trivial (fun _ => ?_)
                  clear hK K
                  try simp only [Act.put]
                  refine wpAnyH_done (by kernel_rfl) ?_ _
                  go_wp2_with fail
                  go_ret2
                  rw [HT.out, HCN.out, HFIN.out]
                  exact ⟨SB.out.k, _, vc, by rw [List.length_set, List.length_set, HLN.out.2.2]; rfl, by rw [List.length_set, List.length_set, HLN.out.2.2]; exact HVC.out, (own_r5' SB.out.own), .inr (fun g3 o3 e3 => by cases e3; exact (SB.out.own.lt gb rfl).1)⟩
              · go_simp
                refine hK.out _ _ trivial (fun _ => ?_)
                clear hK K
                try simp only [Act.put, List.setIfInBounds_toArray, List.set_cons_zero, List.set_cons_succ]
                refine wpAnyH_ready (rs := [7]) (by kernel_rfl) (by simp) ?_
                refine AllReadyH.cons rfl (fun K hK => ?_) AllReadyH.nil
                go_simp
                refine hK.out _ _ trivial (fun _ => ?_)
                clear hK K
                try simp only [Act.put, List.setIfInBounds_toArray, List.set_cons_zero, List.set_cons_succ]
                refine wpAnyH_ready (rs := [9]) (by kernel_rfl) (by simp) ?_
                refine AllReadyH.cons rfl (fun K hK => ?_) AllReadyH.nil
                go_simp
                (go_at_call 19; refine (HCX.out _).mono ?_; rintro r wx ⟨rfl, hkx⟩; have KX := hx (show Kept [] wc wx from (Kept.drew (Kept.refl [] wc)).trans0 hkx); obtain ⟨d0, d1, d2, d3, d4⟩ := HFY.out wx KX.out; clear hkx)
                refine hK.out _ _ trivial (fun _ => ?_)
                clear hK K
                try simp only [Act.put, List.setIfInBounds_toArray, List.set_cons_zero, List.set_cons_succ]
                refine wpAnyH_ready (rs := [16]) (by kernel_rfl) (by simp) ?_
                refine AllReadyH.cons rfl (fun K hK => ?_) AllReadyH.nil
                go_simp
                (go_at_call 19; refine (HCY.out _).mono ?_; rintro r wy ⟨rfl, hky⟩; have KY := hx (KX.out.trans0 hky); clear hky)
                refine hK.out _ _ trivial (fun _ => ?_)
                clear hK K
                try simp only [Act.put, List.setIfInBounds_toArray, List.set_cons_zero, List.set_cons_succ]
                refine take_by 17 144 (v := ?_) rfl rfl (by kernel_rfl) (by kernel_rfl) (by kernel_rfl) (fun _ _ _ h => h) (Or.inl ⟨by rfl, ?_⟩) (by assumption) ?_
                rotate_left
                · (intro w hSw; (try dsimp only at hSw); go_simp; try with_reducible rfl)
                try simp only [List.setIfInBounds_toArray, List.set_cons_zero, List.set_cons_succ]
                refine wpAnyH_ready (rs := [18]) (by kernel_rfl) (by simp) ?_
                refine AllReadyH.cons rfl (fun K hK => ?_) AllReadyH.nil
                refine wp_store5 44 (.tmp 144) (.tmp 136) rfl (HWF.out.kept KY.out) HLN.out.1 ZX rfl rfl (by kernel_rfl) ?_
                intro wa sa
                have SA := hx sa
                clear sa
                refine hK.out _ _ trivial (fun _ => ?_)
                clear hK K
                try simp only [Act.put, List.setIfInBounds_toArray]
                refine take_by 19 145 (v := ?_) rfl rfl (by kernel_rfl) (by kernel_rfl) (by kernel_rfl) (fun _ _ _ h => h) (Or.inl ⟨by rfl, ?_⟩) (by assumption) ?_
                rotate_left
                · (intro w hSw; (try dsimp only at hSw); go_simp; try with_reducible rfl)
                try simp only [List.setIfInBounds_toArray, List.set_cons_zero, List.set_cons_succ]
                refine wpAnyH_ready (rs := [20]) (by kernel_rfl) (by simp) ?_
                refine AllReadyH.cons rfl (fun K hK => ?_) AllReadyH.nil
                refine wp_store5 44 (.tmp 145) (.tmp 143) rfl SA.out (by rw [List.length_set]; exact HLN.out.2.1) ZY rfl rfl (by kernel_rfl) ?_
                intro wb sb
                have SB := hx sb
                clear sb
                refine hK.out _ _ trivial (fun _ => ?_)
                clear hK K
                try simp only [Act.put]
                refine wpAnyH_done (by kernel_rfl) ?_ _
                go_wp2_with fail
                go_ret2
                rw [HT.out, HCN.out, HFIN.out]
                exact ⟨SB.out.k, _, vc, by rw [List.length_set, List.length_set, HLN.out.2.2]; rfl, by rw [List.length_set, List.length_set, HLN.out.2.2]; exact HVC.out, (own_r5' SB.out.own), .inr (fun g3 o3 e3 => by cases e3; exact (SB.out.own.lt gb rfl).1)⟩
end Go.Proofs.Ytimplkdmhndalaa
