/- The document's players: Find, count, Ahead, New. -/
import Derived.Test.YtimplkdmhndalaaLtF
namespace Go.Proofs.Ytimplkdmhndalaa
open Go Go.RowKit Go.Shelf
/-- A list of the document's players, as it lies. -/
structure R5 (w : World) (a : Option Addr) (l : List Ply) : Prop where
  at_ : ∀ i, i < l.length → ∃ g o, a = some ⟨g, o, none⟩ ∧ g < w.heap.size ∧ ∀ k u, (enc5 (l.getD i pl0))[k]? = some u → w.cell? ⟨g, o + i * 5 + k, none⟩ = some u
theorem R5.nil (w : World) (a : Option Addr) : R5 w a [] := ⟨fun i hi => by simp at hi⟩
theorem R5.kept {w w' : World} {a : Option Addr} {l : List Ply} (h : R5 w a l) (hk : Kept [] w w') : R5 w' a l :=
  ⟨fun i hi => by
    obtain ⟨g, o, ha, hg, hc⟩ := h.at_ i hi
    exact ⟨g, o, ha, Nat.lt_of_lt_of_le hg hk.size, fun k u hu => by rw [hk.cell hg (by simp)]; exact hc k u hu⟩⟩
theorem own_r5 {w : World} {base : Nat} {T : TypeId} {v : Value} {l : List Ply} {n : Nat} (ho : w.ownsRow base T 5 v n (cel l)) : n = l.length ∧ ∃ a c, v = .slice a n c ∧ n ≤ c ∧ R5 w a l := by
  have hl := ho.1
  rw [cel_len] at hl
  have hn : n = l.length := by omega
  subst hn
  refine ⟨rfl, ?_⟩
  rcases ho.2 with ⟨rfl, h0⟩ | ⟨g, cap, cur, rfl, _, hg, hc, _⟩
  · exact ⟨none, 0, by rw [h0], by omega, ⟨fun i hi => by omega⟩⟩
  · exact ⟨_, cap, rfl, hc, ⟨fun i hi => ⟨g, 0, rfl, (Array.getElem?_eq_some_iff.1 hg).1, fun k u hu => by rw [Nat.zero_add]; exact own_at5 ho hi hu⟩⟩⟩
theorem R5.cells {w : World} {g o : Nat} {l : List Ply} (h : R5 w (some ⟨g, o, none⟩) l) {i : Nat} (hi : i < l.length) :
    w.cell? ⟨g, o + i * 5, none⟩ = some (txt (l.getD i pl0).nm) ∧ w.cell? ⟨g, o + i * 5 + 1, none⟩ = some (.int .i64 (l.getD i pl0).ma) ∧ w.cell? ⟨g, o + i * 5 + 2, none⟩ = some (.int .i64 (l.getD i pl0).wo) ∧ w.cell? ⟨g, o + i * 5 + 3, none⟩ = some (.int .i64 (l.getD i pl0).dr) ∧ w.cell? ⟨g, o + i * 5 + 4, none⟩ = some (.int .i64 (l.getD i pl0).lo) := by
  obtain ⟨g2, o2, ha, _, hc⟩ := h.at_ i hi
  simp only [Option.some.injEq, Addr.mk.injEq, and_true] at ha
  obtain ⟨rfl, rfl⟩ := ha
  exact ⟨hc 0 _ rfl, hc 1 _ rfl, hc 2 _ rfl, hc 3 _ rfl, hc 4 _ rfl⟩
theorem R5.all {w : World} {g o : Nat} {l : List Ply} (h : R5 w (some ⟨g, o, none⟩) l) (j : Nat) (u : Value) (hj : (cel l)[j]? = some u) : w.cell? ⟨g, o + j, none⟩ = some u := by
  have hlt := (List.getElem?_eq_some_iff.1 hj).1
  rw [cel_len] at hlt
  have h1 := cel_at l (j / 5) (by omega) (j % 5) (by omega)
  rw [show j / 5 * 5 + j % 5 = j by omega, hj] at h1
  obtain ⟨g2, o2, ha, _, hc⟩ := h.at_ (j / 5) (by omega)
  simp only [Option.some.injEq, Addr.mk.injEq, and_true] at ha
  obtain ⟨rfl, rfl⟩ := ha
  have h2 := hc (j % 5) u h1.symm
  rwa [show o + j / 5 * 5 + j % 5 = o + j by omega] at h2
theorem R5.addr {w : World} {a : Option Addr} {l : List Ply} (h : R5 w a l) (hn : 0 < l.length) : ∃ g o, a = some ⟨g, o, none⟩ := by
  obtain ⟨g, o, ha, _⟩ := h.at_ 0 hn
  exact ⟨g, o, ha⟩
/-- As far as it is looked through. -/
theorem plAt_at {n : List UInt8} : ∀ {l : List Ply} {i : Nat}, i < l.length → (l.getD i pl0).nm = n → (∀ j, j < i → (l.getD j pl0).nm ≠ n) → plAt n l = some i
  | [], i, h, _, _ => by simp at h
  | x :: l, 0, _, h, _ => by rw [plAt, if_pos (by simpa using h)]
  | x :: l, i + 1, hi, h, hb => by
    rw [plAt, if_neg (by simpa using hb 0 (by omega)), plAt_at (by simpa using hi) (by simpa using h) (fun j hj => by simpa using hb (j + 1) (by omega))]
    rfl
theorem plAt_out {n : List UInt8} : ∀ {l : List Ply}, (∀ j, j < l.length → (l.getD j pl0).nm ≠ n) → plAt n l = none
  | [], _ => rfl
  | x :: l, h => by
    rw [plAt, if_neg (by simpa using h 0 (by simp)), plAt_out (fun j hj => by simpa using h (j + 1) (by simpa using hj))]
    rfl
set_option maxRecDepth 100000 in
set_option maxHeartbeats 3200000 in
theorem rfind_any (a : Option Addr) (c : Nat) (l : List Ply) (n : List UInt8) (w : World) (h : R5 w a l) (hb : l.length ≤ 1000000) :
    Calls Try.prog 11 #[.slice a l.length c, txt n] w fun e w' => e = .returned (.int .i64 (plV n l)) ∧ w' = w := by
  have HR := hx h
  obtain ⟨m, hm⟩ : ∃ m, l.length = m := ⟨_, rfl⟩
  have HM := hx hm
  rw [hm] at hb ⊢
  clear h hm
  obtain ⟨r, hr⟩ : ∃ r, plV n l = r := ⟨_, rfl⟩
  rw [hr]
  have HE := hx hr
  clear hr
  go_enter Try.func11, Try.ntmps11
  go_wp2_with fail
  go_loopw [5] (fun iv wr => ∃ i : Nat, iv = .int .i64 (i : Int) ∧ i ≤ m ∧ Hx (∀ j, j < i → (l.getD j pl0).nm ≠ n) ∧ wr = w) (fun iv _ => m - (intOf iv).toNat)
  case atStart => exact ⟨0, rfl, Nat.zero_le _, ⟨fun j hj => by omega⟩, rfl⟩
  case round =>
    obtain ⟨i, rfl, hi, hj, rfl⟩ := hrel
    by_cases hlt : i < m
    · have hil : (i : Int) < (m : Int) := by omega
      have hlm : i < l.length := by have := HM.out; omega
      obtain ⟨g, o, rfl⟩ := HR.out.addr (by omega)
      have e0 := (HR.out.cells hlm).1
      have HLT := hx (And.intro hlt hlm)
      obtain ⟨y, hy⟩ : ∃ y, (l.getD i pl0).nm = y := ⟨_, rfl⟩
      rw [hy] at e0
      have HY := hx hy
      clear hy hlt hlm hi
      by_cases hyn : y = n
      · subst hyn
        have hpl : plV y l = (i : Int) := by unfold plV; rw [plAt_at HLT.out.2 HY.out hj.out]
        have HRI := hx (show r = (i : Int) by rw [← HE.out, hpl])
        clear hj hpl
        go_wp2_with fail
        go_ret
        exact ⟨by rw [HRI.out]; rfl, rfl⟩
      · have hne : (y == n) = false := by simpa using hyn
        have HJ2 : Hx (∀ j, j < i + 1 → (l.getD j pl0).nm ≠ n) := ⟨fun j hjj => by
          by_cases hji : j < i
          · exact hj.out j hji
          · rw [show j = i by omega, HY.out]; exact hyn⟩
        clear hj hyn
        go_wp2_with fail
        go_roundw
        case rel => exact ⟨i + 1, by push_cast; rfl, by have := HLT.out; omega, HJ2, trivial⟩
        case measure =>
          simp only [intOf]
          have h := HLT.out
          omega
    · have hil : ¬ (i : Int) < (m : Int) := by omega
      have hpl : plV n l = -1 := by unfold plV; rw [plAt_out (fun j hjl => hj.out j (by have := HM.out; omega))]
      have HRI := hx (show r = -1 by rw [← HE.out, hpl])
      clear hj hpl hlt hi
      go_wp2_with fail
      go_ret
      exact ⟨by rw [HRI.out]; rfl, rfl⟩
theorem blk_at (w : World) (g : Nat) (hg : g = w.heap.size) (xs : List Value) (T : TypeId) : Blk (w.alloc (.cells xs.toArray T)) g xs T := by
  subst hg
  exact Blk.new w xs T
set_option maxRecDepth 100000 in
set_option maxHeartbeats 3200000 in
theorem rcount_any (x : Ply) (e : Int) (w : World) (h0 : 0 ≤ e) (h2 : e ≤ 2) (hb : (0 ≤ x.wo ∧ x.wo ≤ 1000000) ∧ (0 ≤ x.dr ∧ x.dr ≤ 1000000) ∧ (0 ≤ x.lo ∧ x.lo ≤ 1000000)) :
    Calls Try.prog 19 #[.agg #[txt x.nm, .int .i64 x.ma, .int .i64 x.wo, .int .i64 x.dr, .int .i64 x.lo], .int .i64 e] w fun r w' => r = .returned (agP (cntP x e)) ∧ Kept [] w w' := by
  have hcs : e = 0 ∨ e = 1 ∨ e = 2 := by omega
  obtain ⟨⟨hb1, hb2⟩, ⟨hb3, hb4⟩, hb5, hb6⟩ := hb
  clear h0 h2
  rcases hcs with rfl | rfl | rfl
  all_goals
    go_enter Try.func19, Try.ntmps19
    go_wp2_with fail
  · exact bodyPost_ret (ret_blk rfl _ (w.heap.size + 1) _ _ _ rfl (blk_at _ _ (by simp) (enc5 (cntP x 0)) 44) Try.underlying44 rfl (by kernel_rfl)) rfl ⟨rfl, ((Kept.refl [] w).alloc _).alloc _⟩
  · exact bodyPost_ret (ret_blk rfl _ (w.heap.size + 1) _ _ _ rfl (blk_at _ _ (by simp) (enc5 (cntP x 1)) 44) Try.underlying44 rfl (by kernel_rfl)) rfl ⟨rfl, ((Kept.refl [] w).alloc _).alloc _⟩
  · exact bodyPost_ret (ret_blk rfl _ (w.heap.size + 1) _ _ _ rfl (blk_at _ _ (by simp) (enc5 (cntP x 2)) 44) Try.underlying44 rfl (by kernel_rfl)) rfl ⟨rfl, ((Kept.refl [] w).alloc _).alloc _⟩
set_option maxRecDepth 100000 in
set_option maxHeartbeats 3200000 in
theorem rahead_any (x y : Ply) (w : World) :
    Calls Try.prog 33 #[.agg #[txt x.nm, .int .i64 x.ma, .int .i64 x.wo, .int .i64 x.dr, .int .i64 x.lo], .agg #[txt y.nm, .int .i64 y.ma, .int .i64 y.wo, .int .i64 y.dr, .int .i64 y.lo]] w fun r w' => r = .returned (.bool (ahP x y)) ∧ Kept [] w w' := by
  obtain ⟨xn, xa, xw, xd, xl⟩ := x
  obtain ⟨yn, ya, yw, yd, yl⟩ := y
  dsimp only
  by_cases h1 : xa = ya
  · subst h1
    by_cases h2 : xw = yw
    · subst h2
      have HE := hx (show ahP ⟨xn, xa, xw, xd, xl⟩ ⟨yn, xa, xw, yd, yl⟩ = bl xn yn by simp [ahP])
      go_enter Try.func33, Try.ntmps33
      go_wp2
      go_ret
      exact ⟨by rw [HE.out]; rfl, ((Kept.refl [] w).alloc _).alloc _⟩
    · have hb : (xw != yw) = true := by simpa using h2
      have HE := hx (show ahP ⟨xn, xa, xw, xd, xl⟩ ⟨yn, xa, yw, yd, yl⟩ = decide (yw < xw) by simp [ahP, h2])
      clear h2
      go_enter Try.func33, Try.ntmps33
      go_wp2
      go_ret
      exact ⟨by rw [HE.out]; rfl, ((Kept.refl [] w).alloc _).alloc _⟩
  · have hb : (xa != ya) = true := by simpa using h1
    have HE := hx (show ahP ⟨xn, xa, xw, xd, xl⟩ ⟨yn, ya, yw, yd, yl⟩ = decide (ya < xa) by simp [ahP, h1])
    clear h1
    go_enter Try.func33, Try.ntmps33
    go_wp2
    go_ret
    exact ⟨by rw [HE.out]; rfl, ((Kept.refl [] w).alloc _).alloc _⟩
end Go.Proofs.Ytimplkdmhndalaa
