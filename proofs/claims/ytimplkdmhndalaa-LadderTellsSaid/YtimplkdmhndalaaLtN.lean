/- The law's comparisons of players; what a game keeps. -/
import Derived.Test.YtimplkdmhndalaaLtM
namespace Go.Proofs.Ytimplkdmhndalaa
open Go Go.RowKit Go.Shelf
set_option maxRecDepth 100000 in
set_option maxHeartbeats 3200000 in
theorem lplayer_any (x : Ply) (w : World) :
    Calls Try.prog 12 #[.agg #[txt x.nm, .int .i64 x.ma, .int .i64 x.wo, .int .i64 x.dr, .int .i64 x.lo], .agg #[txt x.nm, .int .i64 x.ma, .int .i64 x.wo, .int .i64 x.dr, .int .i64 x.lo]] w fun r w' => r = .returned (.bool true) ∧ Kept [] w w' := by
  go_enter Try.func12, Try.ntmps12
  go_wp2
  go_ret
  exact ⟨rfl, ((Kept.refl [] w).alloc _).alloc _⟩
theorem gameP_len (h : List Ply) (i k : Nat) (n e : Int) : (gameP h i k n e).length = h.length := by unfold gameP; rw [List.length_set, List.length_set]
theorem tellP_len (h : List Ply) (a b : List UInt8) (e : Int) : (tellP h a b e).1.length = h.length := by
  unfold tellP
  split
  · split
    · rfl
    · split
      · rfl
      · exact gameP_len _ _ _ _ _
  · rfl
theorem cntP_nm (x : Ply) (e : Int) : (cntP x e).nm = x.nm ∧ (cntP x e).ma = x.ma := by
  unfold cntP
  repeat' split
  all_goals exact ⟨rfl, rfl⟩
theorem gameP_nm {h : List Ply} {i k : Nat} (hi : i < h.length) (hk : k < h.length) (n e : Int) : (gameP h i k n e).map (·.nm) = h.map (·.nm) := by
  unfold gameP
  have e1 : ∀ {l : List Ply} {j : Nat} {y : Ply}, j < l.length → y.nm = (l.getD j pl0).nm → (l.set j y).map (·.nm) = l.map (·.nm) := fun {l j y} hj hy => by
    rw [List.map_set, hy]
    have h3 : (l.getD j pl0).nm = (l.map (·.nm))[j]'(by simpa using hj) := by
      rw [List.getElem_map, List.getD_eq_getElem?_getD, List.getElem?_eq_getElem hj]
      rfl
    rw [h3, List.set_getElem_self]
  by_cases hik : i = k
  · subst hik
    rw [List.set_set, e1 hi (by rw [(cntP_nm _ _).1]; rfl)]
  · rw [e1 (by rw [List.length_set]; exact hk) (by rw [(cntP_nm _ _).1, getD_set_ne hik]; rfl), e1 hi (by rw [(cntP_nm _ _).1]; rfl)]
theorem tellP_nm (h : List Ply) (a b : List UInt8) (e : Int) : (tellP h a b e).1.map (·.nm) = h.map (·.nm) := by
  unfold tellP
  split
  · rename_i i k ha hb
    split
    · rfl
    · split
      · rfl
      · exact gameP_nm (plAt_some ha).1 (plAt_some hb).1 _ _
  · rfl
def sumM (l : List Ply) : Int := (l.map (·.ma)).sum
theorem sum_set : ∀ {l : List Int} {j : Nat} (y : Int), j < l.length → (l.set j y).sum = l.sum + y - l.getD j 0
  | [], j, y, h => by simp at h
  | x :: l, 0, y, _ => by simp; omega
  | x :: l, j + 1, y, h => by
    have := sum_set (l := l) (j := j) y (by simpa using h)
    simp only [List.set_cons_succ, List.sum_cons, List.getD_cons_succ]
    omega
theorem gameP_sum {h : List Ply} {i k : Nat} (hi : i < h.length) (hk : k < h.length) (hik : i ≠ k) (n e : Int) : sumM (gameP h i k n e) = sumM h := by
  unfold sumM gameP
  have hg : ∀ {l : List Ply} {j : Nat}, j < l.length → (l.map (·.ma)).getD j 0 = (l.getD j pl0).ma := fun {l j} hj => by
    rw [List.getD_eq_getElem?_getD, List.getD_eq_getElem?_getD, List.getElem?_map, List.getElem?_eq_getElem hj]
    rfl
  rw [List.map_set, List.map_set, sum_set _ (by simpa using hk), sum_set _ (by simpa using hi), hg hi]
  have e2 : (((h.map (·.ma)).set i (cntP (mkP (h.getD i pl0) ((h.getD i pl0).ma + movI n (h.getD i pl0).ma (h.getD k pl0).ma)) e).ma).getD k 0) = (h.getD k pl0).ma := by
    rw [List.getD_eq_getElem?_getD, List.getElem?_set_ne hik, ← List.getD_eq_getElem?_getD, hg hk]
  rw [e2, (cntP_nm _ _).2, (cntP_nm _ _).2]
  simp only [mkP]
  omega
theorem tellP_sum (h : List Ply) (a b : List UInt8) (e : Int) : sumM (tellP h a b e).1 = sumM h := by
  unfold tellP
  split
  · rename_i i k ha hb
    split
    · rfl
    · rename_i hik
      split
      · rfl
      · exact gameP_sum (plAt_some ha).1 (plAt_some hb).1 hik _ _
  · rfl
theorem Gd.up {h : List Ply} {t : Int} (g : Gd h t) : Gd h (t + 1) :=
  ⟨g.ma, fun x hx => by have := g.cn x hx; omega, g.nm, g.len⟩
theorem Gd.tell {h : List Ply} {t : Int} (g : Gd h t) (a b : List UInt8) (e : Int) : Gd (tellP h a b e).1 (t + 1) := by
  have hnm := tellP_nm h a b e
  have hln := tellP_len h a b e
  have hnp : (tellP h a b e).1.Pairwise (fun x y => x.nm ≠ y.nm) := by
    have h1 : (h.map (·.nm)).Pairwise (· ≠ ·) := List.pairwise_map.2 g.nm
    rw [← hnm] at h1
    exact List.pairwise_map.1 h1
  have key : ∀ x, x ∈ (tellP h a b e).1 → (0 ≤ x.ma ∧ x.ma ≤ 4000) ∧ (0 ≤ x.wo ∧ x.wo ≤ t + 1) ∧ (0 ≤ x.dr ∧ x.dr ≤ t + 1) ∧ (0 ≤ x.lo ∧ x.lo ≤ t + 1) := by
    have old : ∀ x, x ∈ h → (0 ≤ x.ma ∧ x.ma ≤ 4000) ∧ (0 ≤ x.wo ∧ x.wo ≤ t + 1) ∧ (0 ≤ x.dr ∧ x.dr ≤ t + 1) ∧ (0 ≤ x.lo ∧ x.lo ≤ t + 1) := fun x hx => by
      have h1 := g.ma x hx
      have h2 := g.cn x hx
      omega
    intro x hx
    unfold tellP at hx
    split at hx
    · rename_i i k ha hb
      split at hx
      · exact old x hx
      · split at hx
        · exact old x hx
        · unfold gameP at hx
          have hi := g.at_ (plAt_some ha).1
          have hk := g.at_ (plAt_some hb).1
          have hmv := mov_bd (N := cngP h i k e) hi.1 hk.1
          have cn : ∀ (y : Ply) (f : Int), (0 ≤ y.wo ∧ y.wo ≤ t) ∧ (0 ≤ y.dr ∧ y.dr ≤ t) ∧ (0 ≤ y.lo ∧ y.lo ≤ t) → (0 ≤ (cntP y f).wo ∧ (cntP y f).wo ≤ t + 1) ∧ (0 ≤ (cntP y f).dr ∧ (cntP y f).dr ≤ t + 1) ∧ (0 ≤ (cntP y f).lo ∧ (cntP y f).lo ≤ t + 1) := fun y f hy => by
            unfold cntP
            repeat' split
            all_goals (first | omega | (dsimp only; omega))
          rcases List.mem_or_eq_of_mem_set hx with hx | rfl
          · rcases List.mem_or_eq_of_mem_set hx with hx | rfl
            · exact old x hx
            · rw [(cntP_nm _ _).2]
              exact ⟨hmv.1, cn _ _ hi.2⟩
          · rw [(cntP_nm _ _).2]
            exact ⟨hmv.2.1, cn _ _ hk.2⟩
    · exact old x hx
  exact ⟨fun x hx => (key x hx).1, fun x hx => (key x hx).2, hnp, by rw [hln]; exact g.len⟩
set_option maxRecDepth 100000 in
set_option maxHeartbeats 12800000 in
theorem lranks_any (q : Nat) (v : Value) (ga : Int) (a : Option Addr) (c : Nat) (h : List Ply) (t : Int) (w : World) (s : Ld w q v ga h) (r : R5 w a h) (g : Gd h t) :
    Calls Try.prog 7 #[.pointer (some ⟨q, 0, none⟩), .slice a h.length c] w fun e w' => e = .returned (.bool true) ∧ Kept [] w w' := by
  have hl := g.len
  have HP := hx (pranks_any q v ga h w s g.nm (by omega))
  have HQ := hx (fun w1 (hk : Kept [] w w1) => rranks_any a c h w1 (r.kept hk) hl)
  have hrl := ranks_len h
  generalize ranksP [] h = L at *
  generalize hm : h.length = n at *
  have HL := hx hrl
  clear s r g hrl hm
  go_enter Try.func7, Try.ntmps7
  go_wp2_with (first
    | (go_at_call 14; refine HP.out.mono ?_; rintro e w1 ⟨v1, rfl, ho1, hk1⟩; obtain ⟨b1, d1, rfl⟩ := own_slice ho1; have O1 := hx ho1; have K1 := hx hk1; clear ho1 hk1)
    | (go_at_call 17; refine (HQ.out _ K1.out).mono ?_; rintro e w2 ⟨b2, d2, rfl, _, hr2, hk2⟩; have R2 := hx hr2; have O2 := hx (own_kept3 O1.out (fun g cs _ hg => hk2.block g (Array.getElem?_eq_some_iff.1 hg).1 (by simp))); have K2 := hx (K1.out.trans0 hk2); clear hr2 hk2))
  obtain ⟨W2, hW2⟩ : ∃ W, W = w2 := ⟨_, rfl⟩
  subst hW2
  go_loopw [7] (fun iv wr => ∃ i : Nat, iv = .int .i64 (i : Int) ∧ i ≤ n ∧ Kept [] W2 wr) (fun iv _ => n - (intOf iv).toNat)
  case atStart => exact ⟨0, rfl, Nat.zero_le _, Kept.refl _ _⟩
  case round =>
    obtain ⟨i, rfl, hi, hk⟩ := hrel
    have HK := hx hk
    clear hk
    by_cases hlt : i < n
    · have hil : (i : Int) < (n : Int) := by omega
      have O3 := own_kept3 O2.out (fun g cs _ hg => HK.out.block g (Array.getElem?_eq_some_iff.1 hg).1 (by simp))
      obtain ⟨g1, rfl⟩ : ∃ g1, b1 = some ⟨g1, 0, none⟩ := by
        rcases O3.2 with ⟨h1, h2⟩ | ⟨g2, cap, cur, he, _⟩
        · omega
        · simp only [Value.slice.injEq] at he
          exact ⟨g2, he.1⟩
      obtain ⟨p0, p1, p2, p3, p4⟩ := own_five O3 (i := i) (by have := HL.out; omega)
      obtain ⟨g2, o2, rfl⟩ := R2.out.addr (by have := HL.out; omega)
      obtain ⟨q0, q1, q2, q3, q4⟩ := (R2.out.kept HK.out).cells (i := i) (by have := HL.out; omega)
      have HPL := hx (fun W => lplayer_any (L.getD i pl0) W)
      generalize L.getD i pl0 = X at *
      have HLT := hx hlt
      have hi32 : i < 32 := by omega
      clear O3 hlt hi
      have HSK := hx (fun (w3 : World) (hk3 : Kept [] wr w3) => show (fun w3 : World => w3.cell? ⟨g1, i * 5, none⟩ = some (txt X.nm) ∧ w3.cell? ⟨g1, i * 5 + 1, none⟩ = some (.int .i64 X.ma) ∧ w3.cell? ⟨g1, i * 5 + 2, none⟩ = some (.int .i64 X.wo) ∧ w3.cell? ⟨g1, i * 5 + 3, none⟩ = some (.int .i64 X.dr) ∧ w3.cell? ⟨g1, i * 5 + 4, none⟩ = some (.int .i64 X.lo) ∧ w3.cell? ⟨g2, o2 + i * 5, none⟩ = some (txt X.nm) ∧ w3.cell? ⟨g2, o2 + i * 5 + 1, none⟩ = some (.int .i64 X.ma) ∧ w3.cell? ⟨g2, o2 + i * 5 + 2, none⟩ = some (.int .i64 X.wo) ∧ w3.cell? ⟨g2, o2 + i * 5 + 3, none⟩ = some (.int .i64 X.dr) ∧ w3.cell? ⟨g2, o2 + i * 5 + 4, none⟩ = some (.int .i64 X.lo)) w3 from ⟨kept_cell hk3 p0, kept_cell hk3 p1, kept_cell hk3 p2, kept_cell hk3 p3, kept_cell hk3 p4, kept_cell hk3 q0, kept_cell hk3 q1, kept_cell hk3 q2, kept_cell hk3 q3, kept_cell hk3 q4⟩)
      go_upto_region 7 with fail
      refine wp_region_held_drew (S := (fun w3 : World => w3.cell? ⟨g1, i * 5, none⟩ = some (txt X.nm) ∧ w3.cell? ⟨g1, i * 5 + 1, none⟩ = some (.int .i64 X.ma) ∧ w3.cell? ⟨g1, i * 5 + 2, none⟩ = some (.int .i64 X.wo) ∧ w3.cell? ⟨g1, i * 5 + 3, none⟩ = some (.int .i64 X.dr) ∧ w3.cell? ⟨g1, i * 5 + 4, none⟩ = some (.int .i64 X.lo) ∧ w3.cell? ⟨g2, o2 + i * 5, none⟩ = some (txt X.nm) ∧ w3.cell? ⟨g2, o2 + i * 5 + 1, none⟩ = some (.int .i64 X.ma) ∧ w3.cell? ⟨g2, o2 + i * 5 + 2, none⟩ = some (.int .i64 X.wo) ∧ w3.cell? ⟨g2, o2 + i * 5 + 3, none⟩ = some (.int .i64 X.dr) ∧ w3.cell? ⟨g2, o2 + i * 5 + 4, none⟩ = some (.int .i64 X.lo))) (by kernel_rfl) (HSK.out _ ((Kept.refl [] wr).drew)) (fun hHeld => ?_)
      refine take_by 0 23 (v := ?_) rfl rfl (by kernel_rfl) (by kernel_rfl) (by kernel_rfl) (fun _ _ _ h => h) (Or.inl ⟨by rfl, ?_⟩) (by assumption) ?_
      rotate_left
      · (intro w hSw; (try dsimp only at hSw); go_simp; try with_reducible rfl)
      try simp only [List.setIfInBounds_toArray, List.set_cons_zero, List.set_cons_succ]
      refine take_by 1 24 (v := ?_) rfl rfl (by kernel_rfl) (by kernel_rfl) (by kernel_rfl) (fun _ _ _ h => h) (Or.inl ⟨by rfl, ?_⟩) (by assumption) ?_
      rotate_left
      · (intro w hSw; (try dsimp only at hSw); go_simp; try with_reducible rfl)
      try simp only [List.setIfInBounds_toArray, List.set_cons_zero, List.set_cons_succ]
      refine take_by 2 25 (v := ?_) rfl rfl (by kernel_rfl) (by kernel_rfl) (by kernel_rfl) (fun _ _ _ h => h) (Or.inl ⟨by rfl, ?_⟩) (by assumption) ?_
      rotate_left
      · (intro w hSw; (try dsimp only at hSw); go_simp; try with_reducible rfl)
      try simp only [List.setIfInBounds_toArray, List.set_cons_zero, List.set_cons_succ]
      refine take_by 3 26 (v := ?_) rfl rfl (by kernel_rfl) (by kernel_rfl) (by kernel_rfl) (fun _ _ _ h => h) (Or.inl ⟨by rfl, ?_⟩) (by assumption) ?_
      rotate_left
      · (intro w hSw; (try dsimp only at hSw); go_simp; try with_reducible rfl)
      try simp only [List.setIfInBounds_toArray, List.set_cons_zero, List.set_cons_succ]
      refine take_by 4 27 (v := ?_) rfl rfl (by kernel_rfl) (by kernel_rfl) (by kernel_rfl) (fun _ _ _ h => h) (Or.inl ⟨by rfl, ?_⟩) (by assumption) ?_
      rotate_left
      · (intro w hSw; (try dsimp only at hSw); go_simp; try with_reducible rfl)
      try simp only [List.setIfInBounds_toArray, List.set_cons_zero, List.set_cons_succ]
      refine take_by 5 28 (v := ?_) rfl rfl (by kernel_rfl) (by kernel_rfl) (by kernel_rfl) (fun _ _ _ h => h) (Or.inl ⟨by rfl, ?_⟩) (by assumption) ?_
      rotate_left
      · (intro w hSw; (try dsimp only at hSw); go_simp; try with_reducible rfl)
      try simp only [List.setIfInBounds_toArray, List.set_cons_zero, List.set_cons_succ]
      refine take_by 6 29 (v := ?_) rfl rfl (by kernel_rfl) (by kernel_rfl) (by kernel_rfl) (fun _ _ _ h => h) (Or.inl ⟨by rfl, ?_⟩) (by assumption) ?_
      rotate_left
      · (intro w hSw; (try dsimp only at hSw); go_simp; try with_reducible rfl)
      try simp only [List.setIfInBounds_toArray, List.set_cons_zero, List.set_cons_succ]
      refine take_by 7 30 (v := ?_) rfl rfl (by kernel_rfl) (by kernel_rfl) (by kernel_rfl) (fun _ _ _ h => h) (Or.inl ⟨by rfl, ?_⟩) (by assumption) ?_
      rotate_left
      · (intro w hSw; (try dsimp only at hSw); go_simp; try with_reducible rfl)
      try simp only [List.setIfInBounds_toArray, List.set_cons_zero, List.set_cons_succ]
      refine wpAnyH_ready (rs := [8]) (by kernel_rfl) (by simp) ?_
      refine AllReadyH.cons rfl (fun K hK => ?_) AllReadyH.nil
      go_simp
      (go_at_call 12; refine (HPL.out _).mono ?_; rintro r w9 ⟨rfl, hk9⟩; have K9 := hx (show Kept [] wr w9 from (Kept.drew (Kept.refl [] wr)).trans0 hk9); have hS9 := HSK.out _ K9.out; clear hk9)
      refine hK.out _ _ (hS9) (fun hHeld => ?_)
      clear hK K
      try simp only [Act.put, List.setIfInBounds_toArray, List.set_cons_zero, List.set_cons_succ]
      refine take_by 9 32 (v := ?_) rfl rfl (by kernel_rfl) (by kernel_rfl) (by kernel_rfl) (fun _ _ _ h => h) (Or.inl ⟨by rfl, ?_⟩) (by assumption) ?_
      rotate_left
      · (intro w hSw; (try dsimp only at hSw); go_simp; try with_reducible rfl)
      try simp only [List.setIfInBounds_toArray, List.set_cons_zero, List.set_cons_succ]
      refine wpAnyH_done (by kernel_rfl) ?_ _
      go_wp2_with fail
      go_roundw
      case rel => exact ⟨i + 1, by push_cast; rfl, HLT.out, HK.out.trans0 K9.out⟩
      case measure =>
        simp only [intOf]
        have h := HLT.out
        omega
    · have hil : ¬ (i : Int) < (n : Int) := by omega
      clear hlt hi
      go_wp2_with fail
      go_ret
      exact ⟨rfl, K2.out.trans0 HK.out⟩
end Go.Proofs.Ytimplkdmhndalaa
