/- The ladder's counts, Tell. -/
import Derived.Test.YtimplkdmhndalaaLtD
import Derived.Test.YtimplkdmhndalaaLadA
namespace Go.Proofs.Ytimplkdmhndalaa
open Go Go.RowKit Go.Shelf
/-- Where a count stands. -/
def cntAt (e : Int) : Nat := if e = 2 then 2 else if e = 1 then 3 else 4
def cntV (x : Ply) (e : Int) : Int := if e = 2 then x.wo else if e = 1 then x.dr else x.lo
set_option maxRecDepth 100000 in
set_option maxHeartbeats 1600000 in
theorem counts_any (g o : Nat) (x : Ply) (e : Int) (w : World) (h0 : 0 ≤ e) (h2 : e ≤ 2) (hc : w.cell? ⟨g, o + cntAt e, none⟩ = some (.int .i64 (cntV x e))) (hf : ∀ k, w.frozen? ⟨g, k, none⟩ = false) (hb : 0 ≤ cntV x e ∧ cntV x e ≤ 1000000) :
    Calls Try.prog 20 #[.pointer (some ⟨g, o, none⟩), .int .i64 e] w fun r w' => r = .returned (.tuple #[]) ∧ w' = w.setCell ⟨g, o + cntAt e, none⟩ (.int .i64 (cntV x e + 1)) := by
  have hcs : e = 0 ∨ e = 1 ∨ e = 2 := by omega
  have hff := hf (o + cntAt e)
  rcases hcs with rfl | rfl | rfl
  all_goals
    simp only [cntAt, cntV, Int.reduceEq, reduceIte] at hc hb hff ⊢
    clear hf h0 h2
    go_enter Try.func20, Try.ntmps20
    go_wp2
    go_end0
    exact ⟨rfl, rfl⟩
theorem cel_set (h : List Ply) (i k : Nat) (x : Ply) (u : Value) (hi : i < h.length) (hk : k < 5) (hx : (enc5 (h.getD i pl0)).set k u = enc5 x) : (cel h).set (i * 5 + k) u = cel (h.set i x) := by
  induction h generalizing i with
  | nil => simp at hi
  | cons y l ih =>
    have e : cel (y :: l) = enc5 y ++ cel l := rfl
    cases i with
    | zero =>
      rw [e, Nat.zero_mul, Nat.zero_add, List.set_append_left _ _ (by simp [enc5]; omega)]
      have h2 : (enc5 y).set k u = enc5 x := hx
      rw [h2]
      rfl
    | succ i =>
      have h2 := ih i (by simpa using hi) (by simpa using hx)
      rw [e, List.set_append_right _ _ (by simp [enc5]; omega), show (i + 1) * 5 + k - (enc5 y).length = i * 5 + k by simp [enc5]; omega, h2]
      rfl
theorem own_setP {w : World} {base : Nat} {e : TypeId} {g n c : Nat} {h : List Ply} (ho : w.ownsRow base e 5 (.slice (some ⟨g, 0, none⟩) n c) n (cel h)) {i k : Nat} {x : Ply} {u : Value} (hi : i < h.length) (hk : k < 5) (hx : (enc5 (h.getD i pl0)).set k u = enc5 x) :
    (w.setCell ⟨g, i * 5 + k, none⟩ u).ownsRow base e 5 (.slice (some ⟨g, 0, none⟩) n c) n (cel (h.set i x)) := by
  have hl := ho.1
  rw [cel_len] at hl
  refine ⟨by rw [cel_len, List.length_set]; exact hl, ?_⟩
  rcases ho.2 with ⟨h1, _⟩ | ⟨g2, cap, cur, he, hb, hg, hnc, hcm, hcs, ht⟩
  · cases h1
  · simp only [Value.slice.injEq, Option.some.injEq, Addr.mk.injEq, and_true, true_and] at he
    obtain ⟨rfl, rfl⟩ := he
    refine .inr ⟨g, c, (cur.toList.set (i * 5 + k) u).toArray, rfl, hb, ?_, hnc, hcm, ?_, ?_⟩
    · have hB : Blk w g cur.toList e := hg
      exact hB.set (i * 5 + k) u
    · simpa using hcs
    · rw [← cel_set h i k x u hi hk hx, ← ht]
      show (cur.toList.set (i * 5 + k) u).take (n * 5) = (cur.toList.take (n * 5)).set (i * 5 + k) u
      rw [List.take_set]
theorem Ld.set {w : World} {q g n c : Nat} {ga : Int} {h : List Ply} (s : Ld w q (.slice (some ⟨g, 0, none⟩) n c) ga h) {i k : Nat} {x : Ply} {u : Value} (hi : i < h.length) (hk : k < 5) (hx : (enc5 (h.getD i pl0)).set k u = enc5 x) :
    Ld (w.setCell ⟨g, i * 5 + k, none⟩ u) q (.slice (some ⟨g, 0, none⟩) n c) ga (h.set i x) := by
  have hne : g ≠ q := fun e => s.ne (by rw [e]; rfl)
  have hl := s.own.1
  have hn : n = h.length := by
    rcases s.own.2 with ⟨h1, _⟩ | ⟨g2, cap, cur, he, _⟩
    · cases h1
    · simp only [Value.slice.injEq] at he
      exact he.2.1
  subst hn
  refine ⟨s.hq.set_ne (by simpa using Ne.symm hne) _, ?_, s.ne⟩
  rw [List.length_set]
  exact own_setP s.own hi hk hx
theorem Ld.games {w : World} {q : Nat} {v : Value} {ga : Int} {h : List Ply} (s : Ld w q v ga h) (x : Int) : Ld (w.setCell ⟨q, 1, none⟩ (.int .i64 x)) q v x h :=
  ⟨s.hq.set 1 _, own_kept3 s.own (fun g cs hv _ => Below.heap_setCell _ _ _ _ (by
    have := s.ne
    rw [hv] at this
    simpa using this)), s.ne⟩
theorem own_free {w : World} {base : Nat} {e : TypeId} {g n c m : Nat} {xs : List Value} (ho : w.ownsRow base e 5 (.slice (some ⟨g, 0, none⟩) n c) m xs) (j : Nat) : w.frozen? ⟨g, j, none⟩ = false := by
  rcases ho.2 with ⟨h1, _⟩ | ⟨g2, cap, cur, he, _, hg, _⟩
  · cases h1
  · simp only [Value.slice.injEq, Option.some.injEq, Addr.mk.injEq, and_true] at he
    obtain ⟨rfl, _, _⟩ := he
    have hB : Blk w g cur.toList e := hg
    exact hB.free j
theorem getD_set_ne {h : List Ply} {i k : Nat} {x : Ply} (hne : i ≠ k) : (h.set i x).getD k pl0 = h.getD k pl0 := by
  rw [List.getD_eq_getElem?_getD, List.getD_eq_getElem?_getD, List.getElem?_set_ne hne]
theorem getD_set_eq {h : List Ply} {i : Nat} {x : Ply} (hi : i < h.length) : (h.set i x).getD i pl0 = x := by
  rw [List.getD_eq_getElem?_getD, List.getElem?_set_self hi]; rfl
theorem cnt_set (x : Ply) (e : Int) (h0 : 0 ≤ e) (h2 : e ≤ 2) : (enc5 x).set (cntAt e) (.int .i64 (cntV x e + 1)) = enc5 (cntP x e) := by
  have hcs : e = 0 ∨ e = 1 ∨ e = 2 := by omega
  rcases hcs with rfl | rfl | rfl <;> rfl
theorem cntAt_lt (e : Int) : cntAt e < 5 := by unfold cntAt; repeat' split
                                               all_goals omega
theorem cnt_get (x : Ply) (e : Int) (h0 : 0 ≤ e) (h2 : e ≤ 2) : (enc5 x)[cntAt e]? = some (.int .i64 (cntV x e)) := by
  have hcs : e = 0 ∨ e = 1 ∨ e = 2 := by omega
  rcases hcs with rfl | rfl | rfl <;> rfl
theorem own_at5 {w : World} {base : Nat} {e : TypeId} {g n c : Nat} {h : List Ply} (ho : w.ownsRow base e 5 (.slice (some ⟨g, 0, none⟩) n c) n (cel h)) {i : Nat} (hi : i < h.length) {k : Nat} {u : Value} (hu : (enc5 (h.getD i pl0))[k]? = some u) : w.cell? ⟨g, i * 5 + k, none⟩ = some u := by
  have h2 := cel_cells ho i hi k u (by rw [getD_in hi]; exact hu)
  rwa [Nat.zero_add] at h2
theorem Ld.at5 {w : World} {q g n c : Nat} {ga : Int} {h : List Ply} (s : Ld w q (.slice (some ⟨g, 0, none⟩) n c) ga h) {i : Nat} (hi : i < h.length) {k : Nat} {u : Value} (hu : (enc5 (h.getD i pl0))[k]? = some u) : w.cell? ⟨g, i * 5 + k, none⟩ = some u := by
  have hn : n = h.length := by
    rcases s.own.2 with ⟨h1, _⟩ | ⟨g2, cap, cur, he, _⟩
    · cases h1
    · simp only [Value.slice.injEq] at he
      exact he.2.1
  subst hn
  exact own_at5 s.own hi hu
theorem mov_bd {N P R : Int} (hP : 0 ≤ P ∧ P ≤ 4000) (hR : 0 ≤ R ∧ R ≤ 4000) : (0 ≤ P + movI N P R ∧ P + movI N P R ≤ 4000) ∧ (0 ≤ R - movI N P R ∧ R - movI N P R ≤ 4000) ∧ -4000 ≤ movI N P R ∧ movI N P R ≤ 4000 := by
  unfold movI
  omega
def cngP (h : List Ply) (i k : Nat) (e : Int) : Int := changeI (h.getD i pl0).ma (h.getD k pl0).ma e
/-- The ladder behind a game, and the error's number. -/
def tellP (h : List Ply) (a b : List UInt8) (e : Int) : List Ply × Int :=
  match plAt a h, plAt b h with
  | some i, some k => if i = k then (h, 91) else if e < 0 ∨ 2 < e then (h, 1) else (gameP h i k (cngP h i k e) e, 0)
  | _, _ => (h, 91)
/-- What holds of players. -/
structure Gd (h : List Ply) (t : Int) : Prop where
  ma : ∀ x, x ∈ h → 0 ≤ x.ma ∧ x.ma ≤ 4000
  cn : ∀ x, x ∈ h → (0 ≤ x.wo ∧ x.wo ≤ t) ∧ (0 ≤ x.dr ∧ x.dr ≤ t) ∧ (0 ≤ x.lo ∧ x.lo ≤ t)
  nm : h.Pairwise (fun x y => x.nm ≠ y.nm)
  len : h.length ≤ 32
theorem Gd.at_ {h : List Ply} {t : Int} (g : Gd h t) {i : Nat} (hi : i < h.length) : (0 ≤ (h.getD i pl0).ma ∧ (h.getD i pl0).ma ≤ 4000) ∧ (0 ≤ (h.getD i pl0).wo ∧ (h.getD i pl0).wo ≤ t) ∧ (0 ≤ (h.getD i pl0).dr ∧ (h.getD i pl0).dr ≤ t) ∧ (0 ≤ (h.getD i pl0).lo ∧ (h.getD i pl0).lo ≤ t) := by
  have hm : h.getD i pl0 ∈ h := by
    rw [List.getD_eq_getElem?_getD, List.getElem?_eq_getElem hi]
    exact List.getElem_mem hi
  exact ⟨g.ma _ hm, g.cn _ hm⟩
theorem changeI_bd (a b e : Int) (h0 : 0 ≤ e) (h2 : e ≤ 2) : -100 ≤ changeI a b e ∧ changeI a b e ≤ 100 := by
  have := chance_bd (hold (a - b))
  unfold changeI flo
  rw [Int.fdiv_eq_ediv_of_nonneg _ (by omega)]
  omega
/-- What Tell leaves. -/
def TeQ (w : World) (q : Nat) (v : Value) (ga : Int) (p : List Ply × Int) (r : Ending) (w' : World) : Prop :=
  r = .returned (.int .i64 p.2) ∧ Ld w' q v (if p.2 = 0 then ga + 1 else ga) p.1 ∧ Kept (q :: v.ownBlock.toList) w w'
theorem TeQ.same {w w' : World} {q : Nat} {v : Value} {ga c : Int} {h : List Ply} (s : Ld w q v ga h) (hk : Kept [] w w') (hc : c ≠ 0) : TeQ w q v ga (h, c) (.returned (.int .i64 c)) w' :=
  ⟨rfl, by rw [if_neg hc]; exact s.kept hk, hk.mono (by simp)⟩
set_option maxRecDepth 100000 in
set_option maxHeartbeats 12800000 in
theorem ptell_any (q : Nat) (v : Value) (ga : Int) (a b : List UInt8) (e t : Int) (h : List Ply) (w : World) (s : Ld w q v ga h) (g : Gd h t) (ht : t ≤ 1000) (hga : 0 ≤ ga ∧ ga ≤ 1000) :
    Calls Try.prog 9 #[.pointer (some ⟨q, 0, none⟩), txt a, txt b, .int .i64 e] w fun r w' => TeQ w q v ga (tellP h a b e) r w' := by
  obtain ⟨fv, hfv⟩ : ∃ fv : List UInt8 → Int, fv = fun n => plV n h := ⟨_, rfl⟩
  have HF := hx (fun (n : List UInt8) w1 (hk : Kept [] w w1) => by have h2 := find_any q v ga n h w1 (s.kept hk) (by have := g.len; omega); rw [show plV n h = fv n by rw [hfv]] at h2; exact h2 : ∀ (n : List UInt8) w1, Kept [] w w1 → Calls Try.prog 16 #[.pointer (some ⟨q, 0, none⟩), txt n] w1 fun e w' => e = .returned (.int .i64 (fv n)) ∧ Kept [] w1 w')
  have HS := hx s
  have HG := hx g
  clear s g
  obtain ⟨p, hp⟩ : ∃ p, tellP h a b e = p := ⟨_, rfl⟩
  rw [hp]
  have HP := hx hp
  clear hp
  cases ha : plAt a h with
  | none =>
    have HT := hx (show p = (h, 91) by rw [← HP.out]; unfold tellP; rw [ha])
    have fa : fv a = -1 := by rw [hfv]; show plV a h = -1; unfold plV; rw [ha]
    clear ha HP hfv
    go_enter Try.func9, Try.ntmps9
    go_wp2_with (go_at_call 16; refine (HF.out _ _ (by first | exact Kept.refl [] w | exact K1.out)).mono ?_; rintro r w1 ⟨rfl, hk⟩; have K1 : Hx (Kept [] w w1) := (by first | exact hx hk | exact hx (K1.out.trans0 hk)); clear hk)
    go_ret
    rw [HT.out]
    exact TeQ.same HS.out K1.out (by decide)
  | some i =>
    have fa : fv a = (i : Int) := by rw [hfv]; show plV a h = _; unfold plV; rw [ha]
    obtain ⟨hi, _⟩ := plAt_some ha
    have hi32 : i < 32 := by have := HG.out.len; omega
    cases hb : plAt b h with
    | none =>
      have HT := hx (show p = (h, 91) by rw [← HP.out]; unfold tellP; rw [ha, hb])
      have fb : fv b = -1 := by rw [hfv]; show plV b h = -1; unfold plV; rw [hb]
      clear ha hb HP hfv hi
      go_enter Try.func9, Try.ntmps9
      go_wp2_with (go_at_call 16; refine (HF.out _ _ (by first | exact Kept.refl [] w | exact K1.out)).mono ?_; rintro r w1 ⟨rfl, hk⟩; have K1 : Hx (Kept [] w w1) := (by first | exact hx hk | exact hx (K1.out.trans0 hk)); clear hk)
      go_ret
      rw [HT.out]
      exact TeQ.same HS.out K1.out (by decide)
    | some k =>
      have fb : fv b = (k : Int) := by rw [hfv]; show plV b h = _; unfold plV; rw [hb]
      obtain ⟨hk, _⟩ := plAt_some hb
      have hk32 : k < 32 := by have := HG.out.len; omega
      by_cases hik : i = k
      · have HT := hx (show p = (h, 91) by rw [← HP.out]; unfold tellP; rw [ha, hb]; exact if_pos hik)
        subst hik
        clear ha hb HP hfv hi hk
        go_enter Try.func9, Try.ntmps9
        go_wp2_with (go_at_call 16; refine (HF.out _ _ (by first | exact Kept.refl [] w | exact K1.out)).mono ?_; rintro r w1 ⟨rfl, hk⟩; have K1 : Hx (Kept [] w w1) := (by first | exact hx hk | exact hx (K1.out.trans0 hk)); clear hk)
        go_ret
        rw [HT.out]
        exact TeQ.same HS.out K1.out (by decide)
      · obtain ⟨ad, c, rfl⟩ := own_slice HS.out.own
        have hown := HS.out.own
        rcases hown.2 with ⟨_, h0⟩ | ⟨gb, cap, cur, he, _⟩
        · omega
        simp only [Value.slice.injEq, true_and] at he
        obtain ⟨rfl, rfl⟩ := he
        have hbik : ((i : Int) == (k : Int)) = false := by rw [beq_eq_false_iff_ne]; omega
        have hil : (i : Int) < (h.length : Int) := by omega
        have hkl : (k : Int) < (h.length : Int) := by omega
        have HIK := hx (And.intro hik (And.intro hi hk))
        by_cases he : e < 0 ∨ 2 < e
        · have HT := hx (show p = (h, 1) by rw [← HP.out]; unfold tellP; rw [ha, hb]; dsimp only; rw [if_neg hik, if_pos he])
          have HE := hx he
          clear ha hb HP hfv hown hi hk hik he
          go_enter Try.func9, Try.ntmps9
          go_upto_region 4 with (go_at_call 16; refine (HF.out _ _ (by first | exact Kept.refl [] w | exact K1.out)).mono ?_; rintro r w1 ⟨rfl, hk⟩; have K1 : Hx (Kept [] w w1) := (by first | exact hx hk | exact hx (K1.out.trans0 hk)); clear hk)
          have S1 := hx (HS.out.kept K1.out)
          have c0 := S1.out.hq.cell (i := 0) rfl
          have HC := hx (fun W => (change_bad (h.getD i pl0).ma (h.getD k pl0).ma e W HE.out).mono (fun _ _ ⟨h1, h2⟩ => And.intro h1 h2.symm))
          go_quiet (fail)
          have S2 := hx (S1.out.kept (Kept.drewN (Kept.refl [] w1) nq))
          have K2 := hx (K1.out.drewN nq)
          go_upto_region 5 with fail
          clear c0 S1 K1
          generalize w1.drewN nq = W2 at *
          obtain ⟨_, pm, _⟩ := own_five S2.out.own HIK.out.2.1
          obtain ⟨_, qm, _⟩ := own_five S2.out.own HIK.out.2.2
          generalize (h.getD i pl0).ma = P at *
          generalize (h.getD k pl0).ma = R at *
          go_quiet (first | (go_at_call 15; refine Calls.quiet_of_same (HC.out _)))
          have K3 := hx (K2.out.drewN nq)
          go_wp2_with fail
          go_ret
          rw [HT.out]
          exact TeQ.same HS.out K3.out (by decide)
        · have HT := hx (show p = (gameP h i k (cngP h i k e) e, 0) by rw [← HP.out]; unfold tellP; rw [ha, hb]; dsimp only; rw [if_neg hik, if_neg he])
          have h0e : 0 ≤ e := by omega
          have h2e : e ≤ 2 := by omega
          have hnb := changeI_bd (h.getD i pl0).ma (h.getD k pl0).ma e h0e h2e
          clear ha hb HP hfv hown hik he
          go_enter Try.func9, Try.ntmps9
          go_upto_region 4 with (go_at_call 16; refine (HF.out _ _ (by first | exact Kept.refl [] w | exact K1.out)).mono ?_; rintro r w1 ⟨rfl, hk⟩; have K1 : Hx (Kept [] w w1) := (by first | exact hx hk | exact hx (K1.out.trans0 hk)); clear hk)
          have S1 := hx (HS.out.kept K1.out)
          have c0 := S1.out.hq.cell (i := 0) rfl
          have hPb := (HG.out.at_ hi).1
          have hRb := (HG.out.at_ hk).1
          have HC := hx (fun W => (change_any (h.getD i pl0).ma (h.getD k pl0).ma e W (by unfold Fits; omega) (by unfold Fits; omega) h0e h2e).mono (fun _ _ ⟨h1, h2⟩ => And.intro h1 h2.symm))
          go_quiet (fail)
          have S2 := hx (S1.out.kept (Kept.drewN (Kept.refl [] w1) nq))
          have K2 := hx (K1.out.drewN nq)
          go_upto_region 5 with fail
          clear c0 S1 K1 hi hk
          generalize w1.drewN nq = W2 at *
          obtain ⟨_, pm, _⟩ := own_five S2.out.own HIK.out.2.1
          obtain ⟨_, qm, _⟩ := own_five S2.out.own HIK.out.2.2
          have HCN := hx (show cngP h i k e = changeI (h.getD i pl0).ma (h.getD k pl0).ma e from rfl)
          generalize changeI (h.getD i pl0).ma (h.getD k pl0).ma e = N at *
          obtain ⟨P, hP⟩ : ∃ P, (h.getD i pl0).ma = P := ⟨_, rfl⟩
          obtain ⟨R, hR⟩ : ∃ R, (h.getD k pl0).ma = R := ⟨_, rfl⟩
          rw [hP] at pm hPb HC
          rw [hR] at qm hRb HC
          have HPR := hx (And.intro hP hR)
          clear hP hR
          go_quiet (first | (go_at_call 15; refine Calls.quiet_of_same (HC.out _)))
          have K3 := hx (K2.out.drewN nq)
          have S3 := hx (S2.out.kept (Kept.drewN (Kept.refl [] W2) nq))
          go_upto_region 8 with fail
          clear pm qm S2 K2
          generalize W2.drewN nq = W3 at *
          obtain ⟨_, pm, _⟩ := own_five S3.out.own HIK.out.2.1
          obtain ⟨_, qm, _⟩ := own_five S3.out.own HIK.out.2.2
          rw [HPR.out.1] at pm
          rw [HPR.out.2] at qm
          go_quiet (fail)
          have K4 := hx (K3.out.drewN nq)
          have S4 := hx (S3.out.kept (Kept.drewN (Kept.refl [] W3) nq))
          generalize hN1 : (if R < if 4000 - P < N then 4000 - P else N then R else if 4000 - P < N then 4000 - P else N) = N1
          have hb1 : -100 ≤ N1 ∧ N1 ≤ 4000 := by rw [← hN1]; (repeat' split) <;> omega
          have HN1 := hx hN1
          clear hN1
          go_upto_region 9 with fail
          clear pm qm S3 K3
          generalize W3.drewN nq = W4 at *
          obtain ⟨_, pm, _⟩ := own_five S4.out.own HIK.out.2.1
          obtain ⟨_, qm, _⟩ := own_five S4.out.own HIK.out.2.2
          rw [HPR.out.1] at pm
          rw [HPR.out.2] at qm
          go_quiet (fail)
          have K5 := hx (K4.out.drewN nq)
          have S5 := hx (S4.out.kept (Kept.drewN (Kept.refl [] W4) nq))
          generalize hM : (if (if N1 < -P then -P else N1) < R - 4000 then R - 4000 else if N1 < -P then -P else N1) = M
          have hMM : M = movI N P R := by
            rw [← hM, ← HN1.out]
            unfold movI
            (repeat' split) <;> omega
          have hbd := mov_bd (N := N) hPb hRb
          rw [← hMM] at hbd
          have HM := hx hMM
          clear hM hMM HN1
          go_upto_region 10 with fail
          clear pm qm S4 K4
          generalize W4.drewN nq = W5 at *
          obtain ⟨_, pm, _⟩ := own_five S5.out.own HIK.out.2.1
          rw [HPR.out.1] at pm
          have fm := own_free S5.out.own (i * 5 + 1)
          obtain ⟨⟨hpm1, hpm2⟩, ⟨hqm1, hqm2⟩, hm1, hm2⟩ := hbd
          go_upto_region 11 with fail
          have S6 := hx (S5.out.set (i := i) (k := 1) (x := mkP (h.getD i pl0) (P + M)) (u := .int .i64 (P + M)) HIK.out.2.1 (by omega) rfl)
          have K6 := hx ((K5.out.mono (cs := [q, gb]) (by simp)).setCell (p := ⟨gb, i * 5 + 1, none⟩) (.inl (by simp)) (.int .i64 (P + M)))
          clear pm fm S5 K5
          generalize World.setCell W5 _ _ = W6 at *
          have hl6 : k < (h.set i (mkP (h.getD i pl0) (P + M))).length := by rw [List.length_set]; exact HIK.out.2.2
          have qm := S6.out.at5 hl6 (k := 1) (u := .int .i64 R) (by rw [getD_set_ne HIK.out.1, ← HPR.out.2]; rfl)
          have fm := own_free S6.out.own (k * 5 + 1)
          go_upto_region 12 with fail
          have S7 := hx (S6.out.set (i := k) (k := 1) (x := mkP (h.getD k pl0) (R - M)) (u := .int .i64 (R - M)) hl6 (by omega) (by rw [getD_set_ne HIK.out.1]; rfl))
          have K7 := hx (K6.out.setCell (p := ⟨gb, k * 5 + 1, none⟩) (.inl (by simp)) (.int .i64 (R - M)))
          clear qm fm S6 K6
          generalize World.setCell W6 _ _ = W7 at *
          clear hl6
          have hl7 : i < ((h.set i (mkP (h.getD i pl0) (P + M))).set k (mkP (h.getD k pl0) (R - M))).length := by rw [List.length_set, List.length_set]; exact HIK.out.2.1
          have hg7 : ((h.set i (mkP (h.getD i pl0) (P + M))).set k (mkP (h.getD k pl0) (R - M))).getD i pl0 = mkP (h.getD i pl0) (P + M) := by rw [getD_set_ne (Ne.symm HIK.out.1), getD_set_eq HIK.out.2.1]
          have hcb : ∀ (j : Nat) (f : Int), j < h.length → 0 ≤ f → f ≤ 2 → ∀ m, 0 ≤ cntV (mkP (h.getD j pl0) m) f ∧ cntV (mkP (h.getD j pl0) m) f ≤ 1000000 := fun j f hj h0 h2 m => by
            have hb := (HG.out.at_ hj).2
            unfold cntV mkP
            repeat' split
            all_goals (dsimp only; omega)
          have HC1 := hx (counts_any gb (i * 5) (mkP (h.getD i pl0) (P + M)) e W7 h0e h2e (S7.out.at5 hl7 (by rw [hg7]; exact cnt_get _ e h0e h2e)) (own_free S7.out.own) (hcb i e HIK.out.2.1 h0e h2e _))
          have S8 := hx (S7.out.set (i := i) (k := cntAt e) (x := cntP (mkP (h.getD i pl0) (P + M)) e) (u := .int .i64 (cntV (mkP (h.getD i pl0) (P + M)) e + 1)) hl7 (cntAt_lt e) (by rw [hg7]; exact cnt_set _ e h0e h2e))
          have K8 := hx (K7.out.setCell (p := ⟨gb, i * 5 + cntAt e, none⟩) (.inl (by simp)) (.int .i64 (cntV (mkP (h.getD i pl0) (P + M)) e + 1)))
          have hl8 : k < (((h.set i (mkP (h.getD i pl0) (P + M))).set k (mkP (h.getD k pl0) (R - M))).set i (cntP (mkP (h.getD i pl0) (P + M)) e)).length := by rw [List.length_set, List.length_set, List.length_set]; exact HIK.out.2.2
          have hg8 : (((h.set i (mkP (h.getD i pl0) (P + M))).set k (mkP (h.getD k pl0) (R - M))).set i (cntP (mkP (h.getD i pl0) (P + M)) e)).getD k pl0 = mkP (h.getD k pl0) (R - M) := by rw [getD_set_ne HIK.out.1, getD_set_eq (by rw [List.length_set]; exact HIK.out.2.2)]
          generalize World.setCell W7 _ _ = W8 at *
          have HC2 := hx (counts_any gb (k * 5) (mkP (h.getD k pl0) (R - M)) (2 - e) W8 (by omega) (by omega) (S8.out.at5 hl8 (by rw [hg8]; exact cnt_get _ (2 - e) (by omega) (by omega))) (own_free S8.out.own) (hcb k (2 - e) HIK.out.2.2 (by omega) (by omega) _))
          have S9 := hx (S8.out.set (i := k) (k := cntAt (2 - e)) (x := cntP (mkP (h.getD k pl0) (R - M)) (2 - e)) (u := .int .i64 (cntV (mkP (h.getD k pl0) (R - M)) (2 - e) + 1)) hl8 (cntAt_lt _) (by rw [hg8]; exact cnt_set _ (2 - e) (by omega) (by omega)))
          have K9 := hx (K8.out.setCell (p := ⟨gb, k * 5 + cntAt (2 - e), none⟩) (.inl (by simp)) (.int .i64 (cntV (mkP (h.getD k pl0) (R - M)) (2 - e) + 1)))
          generalize World.setCell W8 _ _ = W9 at *
          have q1 := S9.out.hq.cell (i := 1) rfl
          have qf := S9.out.hq.free 1
          have hfin : (((h.set i (mkP (h.getD i pl0) (P + M))).set k (mkP (h.getD k pl0) (R - M))).set i (cntP (mkP (h.getD i pl0) (P + M)) e)).set k (cntP (mkP (h.getD k pl0) (R - M)) (2 - e)) = gameP h i k N e := by
            unfold gameP
            rw [HPR.out.1, HPR.out.2, ← HM.out, List.set_comm _ _ (Ne.symm HIK.out.1), List.set_set, List.set_set]
          rw [hfin] at S9
          clear hcb hl7 hg7 hl8 hg8 S7 S8 K7 K8 hfin
          go_upto_region 13 with (go_at_call 20; refine HC1.out.mono ?_; rintro r w' ⟨rfl, hw8⟩; subst hw8)
          go_upto_region 14 with (go_at_call 20; refine HC2.out.mono ?_; rintro r w' ⟨rfl, hw9⟩; subst hw9)
          clear HC1 HC2
          go_wp2_with fail
          go_ret
          rw [HT.out, HCN.out]
          exact ⟨rfl, S9.out.games (ga + 1), K9.out.setCell (p := ⟨q, 1, none⟩) (.inl (by simp)) _⟩
end Go.Proofs.Ytimplkdmhndalaa
