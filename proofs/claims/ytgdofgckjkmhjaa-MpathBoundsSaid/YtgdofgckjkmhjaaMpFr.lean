/- The law: what goes goes by rank. The law MpathFirst. What comes in of the law MpathFirst. -/
import Derived.Test.YtgdofgckjkmhjaaMpAw
import Derived.Test.YtgdofgckjkmhjaaRowsOf
namespace Go.Proofs.Ytgdofgckjkmhjaa.Mp
open Go Go.RowKit
open Qd (dvl dv0 dvl_one infoDg step_of)
/-- A list of numbers, as it lies. -/
structure IntR (w : World) (a : Option Addr) (l : List Int) : Prop where
  at_ : ∀ (i : Nat) x, l[i]? = some x → ∃ g o, a = some ⟨g, o, none⟩ ∧ g < w.heap.size ∧ w.cell? ⟨g, o + i, none⟩ = some (.int .i64 x)
theorem IntR.kept {w w' : World} {a : Option Addr} {l : List Int} (h : IntR w a l) (hk : Kept [] w w') : IntR w' a l :=
  ⟨fun i x hx => by
    obtain ⟨g, o, h1, h2, h3⟩ := h.at_ i x hx
    exact ⟨g, o, h1, Nat.lt_of_lt_of_le h2 hk.size, by rw [hk.cell h2 (by simp)]; exact h3⟩⟩
/-- An item of the law's: which one it is. -/
def Itm (rk : List Int) (n : Nat) (x : Qd.It) : Prop := ∃ j : Nat, j < n ∧ x.rank = rk.getD j 0 ∧ x.turn = (j : Int) + 1 ∧ x.v.d.a = j
def kI (rk : List Int) (j : Nat) : Qd.It := ⟨rk.getD j 0, (j : Int) + 1, dv0⟩
structure Fi (rk : List Int) (i : Nat) (m : Ms) : Prop where
  ok : Ok m i 0
  room : m.room = 256
  turns : m.turns = i
  len : m.s.length = i
  its : ∀ x, x ∈ m.s → Itm rk i x
def kdA (i : Nat) : Dg := { Qd.dg0 with kind := 6, a := i }
theorem builtA (i : Nat) : Try.prog.built 34 [(0, .int .i64 6), (5, .int .u32 (i : Int))] = some (dgl (kdA i) none 0).toArray := by kernel_rfl
theorem chkA (m : Ms) (i : Nat) : chk (pushD m (kdA i)) = 0 := by
  unfold chk
  rw [if_neg (by simp [pushD, kdA]), if_neg (by
    have : formB (pushD m (kdA i)) = true := by
      unfold formB
      apply decide_eq_true
      simp [formP, pushD, kdA, Qd.dg0]
    rw [this]
    simp [pushD])]
theorem fi_push {rk : List Int} {i : Nat} {m : Ms} {x : Qd.Dv} (h : Fi rk i m) (hi : i < 100) (hx : x.d = pushD m (kdA i)) : Fi rk (i + 1) { pushM m (rk.getD i 0) x with drop := if goneB m.room m.s then m.drop + 1 else m.drop } := by
  refine ⟨by have := push_ok (rank := rk.getD i 0) h.ok (chkA m i) hx; push_cast; exact this, h.room, by show m.turns + 1 = _; rw [h.turns]; push_cast; rfl, ?_, fun y hy => ?_⟩
  · show (pushS m.room m.s ⟨rk.getD i 0, m.turns + 1, x⟩).length = i + 1
    unfold pushS
    have hl := Qd.ins_len m.s ⟨rk.getD i 0, m.turns + 1, x⟩
    rw [if_neg (by rw [h.room, hl, h.len]; push_cast; omega), hl, h.len]
  · rcases pushS_mem hy with rfl | h2
    · exact ⟨i, by omega, rfl, by show m.turns + 1 = _; rw [h.turns], by show x.d.a = i; rw [hx]; rfl⟩
    · obtain ⟨j, h3, h4⟩ := h.its y h2
      exact ⟨j, by omega, h4⟩
/-- Behind what went last: what waits. -/
def Last (rk : List Int) (n : Nat) (la : Int) (s : List Qd.It) : Prop := la = -1 ∨ ∃ j : Nat, j < n ∧ la = j ∧ ∀ y, y ∈ s → Qd.lt (kI rk j) y
structure Fo (rk : List Int) (n : Nat) (m : Ms) (t la : Int) : Prop where
  ok : Ok m n t
  its : ∀ x, x ∈ m.s → Itm rk n x
  last : Last rk n la m.s
/-- Among those that go. -/
def Mid (rk : List Int) (n : Nat) (its rest : List Qd.It) (i : Nat) (la : Int) : Prop :=
  la = -1 ∨ ∃ j : Nat, j < n ∧ la = j ∧ (∀ (k : Nat) x, i ≤ k → its[k]? = some x → (x.rank = rk.getD j 0 ∧ x.turn = (j : Int) + 1) ∨ Qd.lt (kI rk j) x) ∧ ∀ y, y ∈ rest → Qd.lt (kI rk j) y
theorem mid_start {rk : List Int} {n : Nat} {s its rest : List Qd.It} {l : List (Nat × Qd.Dv)} {la : Int} (h : Last rk n la s) (g : Gone s l rest its) : Mid rk n its rest 0 la := by
  rcases h with h | ⟨j, h1, h2, h3⟩
  · exact .inl h
  · exact .inr ⟨j, h1, h2, fun k x _ hx => .inr (h3 x (g.sub x (List.mem_of_getElem? hx))), fun y hy => h3 y (g.rst y hy)⟩
theorem lt_kI {rk : List Int} {j : Nat} {x y : Qd.It} (h1 : x.rank = rk.getD j 0) (h2 : x.turn = (j : Int) + 1) (h : Qd.lt x y) : Qd.lt (kI rk j) y := by
  unfold Qd.lt kI at *
  simp only
  rw [← h1, ← h2]
  exact h
theorem mid_next {rk : List Int} {n j : Nat} {s its rest : List Qd.It} {l : List (Nat × Qd.Dv)} {i : Nat} {x : Qd.It} (g : Gone s l rest its) (hx : its[i]? = some x) (hj : j < n) (h1 : x.rank = rk.getD j 0) (h2 : x.turn = (j : Int) + 1) : Mid rk n its rest (i + 1) (j : Int) := by
  refine .inr ⟨j, hj, rfl, fun k y hk hy => ?_, fun y hy => lt_kI h1 h2 (g.aft x (List.mem_of_getElem? hx) y hy)⟩
  have ho := List.pairwise_iff_getElem.1 g.ord
  obtain ⟨hi, hxe⟩ := List.getElem?_eq_some_iff.1 hx
  obtain ⟨hk2, hye⟩ := List.getElem?_eq_some_iff.1 hy
  have h := ho i k hi hk2 (by omega)
  rw [hxe, hye] at h
  rcases h with rfl | h
  · exact .inl ⟨h1, h2⟩
  · exact .inr (lt_kI h1 h2 h)
theorem mid_end {rk : List Int} {n : Nat} {its rest : List Qd.It} {i : Nat} {la : Int} (h : Mid rk n its rest i la) : Last rk n la rest := by
  rcases h with h | ⟨j, h1, h2, _, h4⟩
  · exact .inl h
  · exact .inr ⟨j, h1, h2, h4⟩
theorem outC_at : ∀ (l : List (Nat × Qd.Dv)) (i : Nat) y, l[i]? = some y → (outC l)[i * 12 + 6]? = some (.int .u32 (y.2.d.a : Int))
  | [], i, y, h => by simp at h
  | z :: l, 0, y, h => by
    simp only [List.getElem?_cons_zero, Option.some.injEq] at h
    subst h
    have e : outC (z :: l) = snt (z.1 : Int) z.2 ++ outC l := by simp [outC]
    rw [e, List.getElem?_append_left (by show 0 * 12 + 6 < 12; omega)]
    rfl
  | z :: l, i + 1, y, h => by
    have e : outC (z :: l) = snt (z.1 : Int) z.2 ++ outC l := by simp [outC]
    have hl : (snt (z.1 : Int) z.2).length = 12 := rfl
    rw [e, List.getElem?_append_right (by rw [hl]; omega), hl, show (i + 1) * 12 + 6 - 12 = i * 12 + 6 by omega]
    exact outC_at l i y (by simpa using h)
theorem own_outA {w : World} {base n c : Nat} {a : Option Addr} {l : List (Nat × Qd.Dv)} (h : w.ownsRow base 38 12 (.slice a n c) n (outC l)) {i : Nat} {y : Nat × Qd.Dv} (hi : i < n) (hy : l[i]? = some y) : ∃ g, a = some ⟨g, 0, none⟩ ∧ w.cell? ⟨g, i * 12 + 6, none⟩ = some (.int .u32 (y.2.d.a : Int)) := by
  rcases h.2 with ⟨_, hn⟩ | ⟨g, cap, cur, he, _, hg, hn, hc, hs, ht⟩
  · omega
  · simp only [Value.slice.injEq] at he
    refine ⟨g, he.1, ?_⟩
    have hB : Blk w g cur.toList 38 := hg
    refine hB.cell ?_
    have h2 : (cur.toList.take (n * 12))[i * 12 + 6]? = (outC l)[i * 12 + 6]? := by rw [ht]
    rw [List.getElem?_take_of_lt (by omega), outC_at l i y hy] at h2
    exact h2
theorem own_fresh {w w' : World} {s b q : Nat} {v v2 : Value} (h : ∀ g, g ∈ own s b q v → w.heap.size ≤ g) (h1 : v2.ownBlock = v.ownBlock ∨ ∃ g, v2.ownBlock = some g ∧ w'.heap.size ≤ g) (h2 : w.heap.size ≤ w'.heap.size) : ∀ g, g ∈ own s b q v2 → w.heap.size ≤ g := by
  intro g hg
  have hf := h g
  simp only [own, List.mem_cons, Option.mem_toList] at hf hg
  rcases hg with h3 | h3 | h3 | h3
  · exact hf (.inl h3)
  · exact hf (.inr (.inl h3))
  · exact hf (.inr (.inr (.inl h3)))
  · rcases h1 with e | ⟨g2, e, hs⟩
    · rw [e] at h3; exact hf (.inr (.inr (.inr h3)))
    · rw [e] at h3
      simp only [Option.some.injEq] at h3
      omega
end Go.Proofs.Ytgdofgckjkmhjaa.Mp
namespace Go.Proofs.Ytgdofgckjkmhjaa.Mp
open Go Go.RowKit
open Qd (dvl dv0 dvl_one infoDg step_of)
theorem waysF_len (m : Ms) (it : Qd.It) : (waysF m it).length ≤ 2 := by
  have h := choM_len m it.rank
  have h2 := (fitW_len (sizeI it.v) m.held (choM m it.rank) h.1 h.2).1
  unfold waysF
  omega
theorem flush_len : ∀ (s : List Qd.It) (m : Ms), (flushL s m).2.length ≤ 2 * s.length
  | [], m => by simp [flushL]
  | it :: r, m => by
    rw [flushL]
    split
    · have h1 := flush_len r (goF m it r).1
      have h2 : (goF m it r).2.length = (waysF m it).length := by unfold goF; rw [stA_len]
      have h3 := waysF_len m it
      simp only [List.length_append, List.length_cons]
      omega
    · simp
set_option maxRecDepth 100000 in
set_option maxHeartbeats 6400000 in
theorem first_bad (rate burst room0 : Int) (a : Option Addr) (c n : Nat) (w : World) (h : rate < 1 ∨ 100000 < rate ∨ burst < 1 ∨ 100000 < burst ∨ 100 < (n : Int)) :
    Calls Try.prog 3 #[.agg #[.int .i64 rate, .int .i64 burst, .int .i64 room0], .slice a n c] w fun e w' => e = .returned (.bool true) ∧ Kept [] w w' := by
  have HA := hx (fun W => awake_m W)
  have HB := hx (Blk.new w [.int .i64 rate, .int .i64 burst, .int .i64 room0] 23)
  by_cases h1 : rate < 1
  · have d1 : decide (rate < 1) = true := decide_eq_true h1
    clear h
    go_enter Try.func3, Try.ntmps3
    go_upto_region 3 with (go_at_call 5; refine (HA.out _).mono ?_; rintro e w1 ⟨rfl, hk1⟩; have K1 := hx (((Kept.refl [] w).alloc _).trans0 hk1); have B1 := hx (hk1.blk HB.out (by simp)); clear hk1)
    have c0 := B1.out.cell (i := 0) rfl
    have c1 := B1.out.cell (i := 1) rfl
    go_wp2_with fail
    go_ret
    exact ⟨rfl, K1.out⟩
  · have d1 : decide (rate < 1) = false := decide_eq_false h1
    by_cases h2 : 100000 < rate
    · have d2 : decide (100000 < rate) = true := decide_eq_true h2
      clear h
      go_enter Try.func3, Try.ntmps3
      go_upto_region 3 with (go_at_call 5; refine (HA.out _).mono ?_; rintro e w1 ⟨rfl, hk1⟩; have K1 := hx (((Kept.refl [] w).alloc _).trans0 hk1); have B1 := hx (hk1.blk HB.out (by simp)); clear hk1)
      have c0 := B1.out.cell (i := 0) rfl
      have c1 := B1.out.cell (i := 1) rfl
      go_wp2_with fail
      go_ret
      exact ⟨rfl, K1.out⟩
    · have d2 : decide (100000 < rate) = false := decide_eq_false h2
      by_cases h3 : burst < 1
      · have d3 : decide (burst < 1) = true := decide_eq_true h3
        clear h
        go_enter Try.func3, Try.ntmps3
        go_upto_region 3 with (go_at_call 5; refine (HA.out _).mono ?_; rintro e w1 ⟨rfl, hk1⟩; have K1 := hx (((Kept.refl [] w).alloc _).trans0 hk1); have B1 := hx (hk1.blk HB.out (by simp)); clear hk1)
        have c0 := B1.out.cell (i := 0) rfl
        have c1 := B1.out.cell (i := 1) rfl
        go_wp2_with fail
        go_ret
        exact ⟨rfl, K1.out⟩
      · have d3 : decide (burst < 1) = false := decide_eq_false h3
        by_cases h4 : 100000 < burst
        · have d4 : decide (100000 < burst) = true := decide_eq_true h4
          clear h
          go_enter Try.func3, Try.ntmps3
          go_upto_region 3 with (go_at_call 5; refine (HA.out _).mono ?_; rintro e w1 ⟨rfl, hk1⟩; have K1 := hx (((Kept.refl [] w).alloc _).trans0 hk1); have B1 := hx (hk1.blk HB.out (by simp)); clear hk1)
          have c0 := B1.out.cell (i := 0) rfl
          have c1 := B1.out.cell (i := 1) rfl
          go_wp2_with fail
          go_ret
          exact ⟨rfl, K1.out⟩
        · have d4 : decide (100000 < burst) = false := decide_eq_false h4
          have h5 : 100 < (n : Int) := by omega
          have d5 : decide (100 < (n : Int)) = true := decide_eq_true h5
          clear h
          go_enter Try.func3, Try.ntmps3
          go_upto_region 3 with (go_at_call 5; refine (HA.out _).mono ?_; rintro e w1 ⟨rfl, hk1⟩; have K1 := hx (((Kept.refl [] w).alloc _).trans0 hk1); have B1 := hx (hk1.blk HB.out (by simp)); clear hk1)
          have c0 := B1.out.cell (i := 0) rfl
          have c1 := B1.out.cell (i := 1) rfl
          go_wp2_with fail
          go_ret
          exact ⟨rfl, K1.out⟩
set_option maxRecDepth 100000 in
set_option maxHeartbeats 12800000 in
theorem first_good (rt : Nat) (burst room0 : Int) (a : Option Addr) (c : Nat) (rk : List Int) (w : World) (hr : IntR w a rk) (h1 : 1 ≤ rt ∧ rt ≤ 100000) (h2 : 1 ≤ burst ∧ burst ≤ 100000) (h3 : rk.length ≤ 100) :
    Calls Try.prog 3 #[.agg #[.int .i64 (rt : Int), .int .i64 burst, .int .i64 room0], .slice a rk.length c] w fun e w' => e = .returned (.bool true) ∧ Kept [] w w' := by
  have HA := hx (fun W => awake_m W)
  have HB := hx (Blk.new w [.int .i64 (rt : Int), .int .i64 burst, .int .i64 room0] 23)
  have HRK := hx hr
  have HNW := hx (fun W => new_m 7 rt burst 256 W (by omega) (by omega) (by omega))
  obtain ⟨n, hn⟩ : ∃ n, rk.length = n := ⟨_, rfl⟩
  rw [hn] at h3
  rw [hn]
  have HLN := hx hn
  have d1 : decide ((rt : Int) < 1) = false := decide_eq_false (by omega)
  have d2 : decide ((100000 : Int) < (rt : Int)) = false := decide_eq_false (by omega)
  have d3 : decide (burst < 1) = false := decide_eq_false (by omega)
  have d4 : decide (100000 < burst) = false := decide_eq_false (by omega)
  have d5 : decide ((100 : Int) < (n : Int)) = false := decide_eq_false (by omega)
  clear hr hn
  go_enter Try.func3, Try.ntmps3
  go_upto_region 3 with (go_at_call 5; refine (HA.out _).mono ?_; rintro e w1 ⟨rfl, hk1⟩; have K1 := hx (((Kept.refl [] w).alloc _).trans0 hk1); have B1 := hx (hk1.blk HB.out (by simp)); clear hk1)
  have c0 := B1.out.cell (i := 0) rfl
  have c1 := B1.out.cell (i := 1) rfl
  go_wp2_with (go_at_call 6; refine (HNW.out _).mono ?_; rintro e w2 ⟨s, b, q, rfl, hr2, hk2, hs, hb, hq⟩; have R2 := hx hr2; have K2 := hx (K1.out.trans0 hk2); have hz1 := K1.out.size; have F2 := hx (show w.heap.size ≤ s ∧ w.heap.size ≤ b ∧ w.heap.size ≤ q by omega); clear hr2 hk2 hs hb hq hz1)
  go_loopw [7] (fun s7 wr => ∃ (i : Nat) (m : Ms) (v : Value), s7 = .int .i64 (i : Int) ∧ i ≤ n ∧ Hx (Fi rk i m) ∧ Hx (Sr wr s b q v m) ∧ Hx (Kept [] w wr) ∧ Hx (∀ g, g ∈ own s b q v → w.heap.size ≤ g)) (fun s7 _ => n - (intOf s7).toNat)
  case atStart => exact ⟨0, ms0 7 rt burst 256, _, rfl, by omega, hx ⟨ms0_ok 7 rt burst 256 (by omega) (by omega) (by omega) (by omega), rfl, rfl, rfl, fun x hx => by simp [ms0] at hx⟩, R2, K2, hx (fun g hg => by
    simp only [own, Value.ownBlock, List.mem_cons, Option.toList_none, List.not_mem_nil, or_false] at hg
    have := F2.out
    rcases hg with rfl | rfl | rfl <;> omega)⟩
  case round =>
    obtain ⟨i, m, v, rfl, hi, HF, HR, HK, HO⟩ := hrel
    by_cases hlt : i < n
    · have hil : (i : Int) < (n : Int) := by omega
      have hi100 : i < 100 := by omega
      obtain ⟨x, hx1⟩ : ∃ x, rk[i]? = some x := ⟨_, List.getElem?_eq_getElem (by have := HLN.out; omega)⟩
      obtain ⟨gr, og, rfl, hgl, cr⟩ := (HRK.out.kept HK.out).at_ i x hx1
      have hxg : rk.getD i 0 = x := by rw [List.getD_eq_getElem?_getD, hx1]; rfl
      have HXG := hx hxg
      have hw32 : IntKind.u32.wrap (i : Int) = (i : Int) := by rw [IntKind.wrap_u32]; omega
      have HPU := hx (push_m s b q v m i 0 x (kdA i) none 0 0 wr HR.out HF.out.ok (by omega) ⟨rfl, Nat.le_refl _, by unfold maxLen; omega, fun _ => rfl, fun j hj => by simp [kdA, Qd.dg0] at hj⟩)
      have HCA := hx (chkA m i)
      have HIL := hx (And.intro hlt hi100)
      clear hx1 hxg hi hlt
      go_wp2_with (first
        | (refine wpList_built rfl 34 _ rfl _ [(0, .int .i64 6), (5, .int .u32 (i : Int))] (by simp only [List.map_toArray, List.map_cons, List.map_nil]; rfl) (builtA i) ?_)
        | (go_at_call 7; refine HPU.out.mono ?_; rintro e w3 ⟨rfl, v2, m2, hr3, hk3, hv3, hm3⟩; have R3 := hx hr3; have K3 := hx hk3; have V3 := hx hv3; have M3 := hx hm3; rw [HCA.out]; clear hr3 hk3 hv3 hm3))
      have hm3 := M3.out
      rw [if_pos HCA.out] at hm3
      obtain ⟨xd, hx1, hx2⟩ := hm3
      go_roundw
      case rel =>
        refine ⟨i + 1, m2, v2, by push_cast; rfl, by have := HIL.out.1; omega, hx ?_, R3, hx (HK.out.trans K3.out (fun _ h => h) (fun g hg => .inr (HO.out g hg))), hx (own_fresh HO.out V3.out HK.out.size)⟩
        rw [hx2, ← HXG.out]
        exact fi_push HF.out HIL.out.2 hx1
      case measure =>
        simp only [intOf]
        have := HIL.out.1
        omega
    · obtain rfl : n = i := by omega
      have HFO := hx (show Fo rk n m 0 (-1) from ⟨HF.out.ok, HF.out.its, .inl rfl⟩)
      clear HF hlt hi
      go_wp2_with fail
      go_loopw [9, 8] (fun s9 s8 wr => ∃ (kk : Nat) (la : Int) (m : Ms) (v : Value), s9 = .int .i64 (kk : Int) ∧ s8 = .int .i64 la ∧ kk ≤ 40 ∧ Hx (Fo rk n m (3 * (kk : Int)) la) ∧ Hx (Sr wr s b q v m) ∧ Hx (Kept [] w wr) ∧ Hx (∀ g, g ∈ own s b q v → w.heap.size ≤ g)) (fun s9 _ _ => 40 - (intOf s9).toNat)
      case atStart => exact ⟨0, -1, m, v, rfl, rfl, by omega, HFO, HR, HK, HO⟩
      case round =>
        clear HFO HR HK HO
        obtain ⟨kk, la, m, v, rfl, rfl, hkk, HF, HR, HK, HO⟩ := hrel
        by_cases hlt : kk < 40
        · have hkl : (kk : Int) < 40 := by omega
          have HKL := hx hlt
          have HFL := hx (flush_m s b q v m n (3 * (kk : Int)) wr HR.out HF.out.ok (by omega) (by omega))
          obtain ⟨hq0, _, hrp0⟩ := HR.out.hq
          obtain ⟨its, hg⟩ := flush_gone m.s m hrp0.ord rfl
          have hg2 : Gone m.s (flushM m).2 (flushM m).1.s its := hg
          obtain ⟨⟨m2, l⟩, hfm⟩ : ∃ p, flushM m = p := ⟨_, rfl⟩
          have hle : (flushM m).2.length ≤ 512 := by
            have h1 := flush_len m.s m
            have h2 := HF.out.ok.len
            have h3 := HF.out.ok.room
            show (flushL m.s m).2.length ≤ 512
            omega
          rw [hfm] at hg2 HFL hle
          have hll : l.length ≤ 512 := hle
          have HG := hx hg2
          clear hfm hg hg2 hrp0 hkk hlt hle
          go_wp2_with (go_at_call 8; refine HFL.out.mono ?_; rintro e w3 ⟨u, v3, rfl, ho, hr, hk, hv, hok⟩; obtain ⟨au, cu, hu⟩ := Qd.own_slice ho; subst hu; have OU := hx ho; have R3 := hx hr; have K3 := hx (HK.out.trans hk (fun _ h => h) (fun g hg => .inr (HO.out g hg))); have V3 := hx hv; have O3 := hx hok; clear ho hr hk hv hok)
          go_loopw [11, 8] (fun s11 s8 wr => ∃ (i : Nat) (L : Int), s11 = .int .i64 (i : Int) ∧ s8 = .int .i64 L ∧ i ≤ l.length ∧ Hx (Mid rk n its m2.s i L) ∧ Hx (Kept [] w3 wr)) (fun s11 _ _ => l.length - (intOf s11).toNat)
          case atStart => exact ⟨0, la, rfl, rfl, Nat.zero_le _, hx (mid_start HF.out.last HG.out), hx (Kept.refl _ _)⟩
          case round =>
            obtain ⟨i, L, rfl, rfl, hi, HM, HK3⟩ := hrel
            by_cases hil : i < l.length
            · have hiI : (i : Int) < (l.length : Int) := by omega
              have HIL := hx hil
              obtain ⟨y, hy⟩ : ∃ y, l[i]? = some y := ⟨_, List.getElem?_eq_getElem hil⟩
              obtain ⟨x, hx1⟩ : ∃ x, its[i]? = some x := ⟨_, List.getElem?_eq_getElem (by have := HG.out.len; omega)⟩
              obtain ⟨j, hj, hxr, hxt, hxa⟩ := HF.out.its x (HG.out.sub x (List.mem_of_getElem? hx1))
              have hya : y.2.d.a = j := by rw [HG.out.a i y x hy hx1]; exact hxa
              have HMN := hx (mid_next HG.out hx1 hj hxr hxt)
              have OW := Qd.own_kept3 OU.out (fun g cs _ hg => HK3.out.block g (Array.getElem?_eq_some_iff.1 hg).1 (by simp))
              obtain ⟨go, rfl, ca⟩ := own_outA OW hil hy
              rw [hya] at ca
              obtain ⟨gr, og, rfl, _, cj⟩ := (HRK.out.kept (K3.out.trans0 HK3.out)).at_ j (rk.getD j 0) (by rw [List.getD_eq_getElem?_getD, List.getElem?_eq_getElem (by have := HLN.out; omega)]; rfl)
              have hjn : (j : Int) < (n : Int) := by omega
              have hjn2 : ¬ (n : Int) ≤ (j : Int) := by omega
              have ca2 : wr.cell? ⟨go, i * 12 + 1 + 5, none⟩ = some (.int .u32 (j : Int)) := by rw [show i * 12 + 1 + 5 = i * 12 + 6 by omega]; exact ca
              have hmid := HM.out
              rcases hmid with rfl | ⟨j0, hj0, rfl, hm1, _⟩
              · clear OW hy hx1 hxr hxt hxa hya hi hil HM
                go_upto_region 24 with fail
                go_quiet (fail)
                have KQ := hx (show Kept [] w3 _ from HK3.out.drewN nq)
                go_wp2_with fail
                go_roundw
                case rel => exact ⟨i + 1, (j : Int), by push_cast; rfl, rfl, by have := HIL.out; omega, HMN, KQ⟩
                case measure =>
                  simp only [intOf]
                  have := HIL.out
                  omega
              · have hcmp := hm1 i x (Nat.le_refl _) hx1
                obtain ⟨gr2, og2, he, _, cj0⟩ := (HRK.out.kept (K3.out.trans0 HK3.out)).at_ j0 (rk.getD j0 0) (by rw [List.getD_eq_getElem?_getD, List.getElem?_eq_getElem (by have := HLN.out; omega)]; rfl)
                simp only [Option.some.injEq, Addr.mk.injEq, and_true] at he
                obtain ⟨rfl, rfl⟩ := he
                have hj0n : (j0 : Int) < (n : Int) := by omega
                have hfin : rk.getD j0 0 < rk.getD j 0 ∨ (rk.getD j 0 = rk.getD j0 0 ∧ j0 ≤ j) := by
                  unfold Qd.lt kI at hcmp
                  simp only at hcmp
                  rw [hxr, hxt] at hcmp
                  omega
                generalize rk.getD j 0 = rj at *
                generalize rk.getD j0 0 = rj0 at *
                clear OW hy hx1 hxr hxt hxa hya hi hil HM hcmp hm1
                rcases hfin with hf | ⟨hf, hf2⟩
                · have b1 : decide (rj < rj0) = false := decide_eq_false (by omega)
                  have b2 : (rj == rj0) = false := beq_eq_false_iff_ne.2 (by omega)
                  have b3 : decide (rj = rj0) = false := decide_eq_false (by omega)
                  clear hf
                  go_upto_region 24 with fail
                  go_quiet (fail)
                  have KQ := hx (show Kept [] w3 _ from HK3.out.drewN nq)
                  go_wp2_with fail
                  go_roundw
                  case rel => exact ⟨i + 1, (j : Int), by push_cast; rfl, rfl, by have := HIL.out; omega, HMN, KQ⟩
                  case measure =>
                    simp only [intOf]
                    have := HIL.out
                    omega
                · subst hf
                  have b1 : decide (rj < rj) = false := decide_eq_false (by omega)
                  have b2 : decide ((j : Int) < (j0 : Int)) = false := decide_eq_false (by omega)
                  have b3 : ¬ (j : Int) < (j0 : Int) := by omega
                  go_upto_region 24 with fail
                  go_quiet (fail)
                  have KQ := hx (show Kept [] w3 _ from HK3.out.drewN nq)
                  go_wp2_with fail
                  go_roundw
                  case rel => exact ⟨i + 1, (j : Int), by push_cast; rfl, rfl, by have := HIL.out; omega, HMN, KQ⟩
                  case measure =>
                    simp only [intOf]
                    have := HIL.out
                    omega
            · obtain rfl : i = l.length := by omega
              have HTK := hx (tick_m s b q v3 m2 n (3 * (kk : Int) + 1) wr (R3.out.kept HK3.out) O3.out (by omega) (by have := HKL.out; omega))
              clear hil hi
              go_wp2_with (go_at_call 9; refine HTK.out.mono ?_; rintro e w5 ⟨u5, rfl, _, hr5, hk5⟩; have R5 := hx hr5; have K5 := hx hk5; clear hr5 hk5)
              have hs5 : (tickM m2).1.s = m2.s := acc_s m2 2
              go_roundw
              case rel =>
                refine ⟨kk + 1, L, (tickM m2).1, v3, by push_cast; rfl, rfl, by have := HKL.out; omega, hx ⟨?_, fun y hy => ?_, ?_⟩, R5, hx ((K3.out.trans0 HK3.out).trans K5.out (fun _ h => h) (fun g hg => .inr ?_)), hx (fun g hg => HO.out g ?_)⟩
                · have h := acc_ok O3.out (by omega) 2
                  rw [show 3 * (kk : Int) + 1 + ((2 : Nat) : Int) = 3 * ((kk + 1 : Nat) : Int) by push_cast; omega] at h
                  exact h
                · rw [hs5] at hy
                  exact HF.out.its y (HG.out.rst y hy)
                · rw [hs5]
                  exact mid_end HM.out
                · simp only [List.mem_cons, List.not_mem_nil, or_false] at hg
                  rcases hg with rfl | rfl
                  · exact HO.out _ (by simp [own])
                  · exact HO.out _ (by simp [own])
                · unfold own at *
                  rw [V3.out] at hg
                  exact hg
              case measure =>
                simp only [intOf]
                have := HKL.out
                omega
        · clear hkk
          go_wp2_with fail
          go_ret
          exact ⟨rfl, HK.out⟩
end Go.Proofs.Ytgdofgckjkmhjaa.Mp
namespace Go.Proofs.Ytgdofgckjkmhjaa.Mp
open Go Go.ChangeShapes Go.WideShapes Go.ChangeAt Go.RowKit Go.Deep
theorem ints_of {H : Type} {enc : TypeId × Value → H} {w : World} {base : Nat} {held : Bool} {spare : Nat → Bool} {fuel : Nat} {v : Value} {x : DataW H × List MemPlace} (h : DataW.trod enc Try.prog w base spare held fuel 24 [v] = some x) :
    ∃ a c xs, v = .slice a xs.length c ∧ IntR w a xs := by
  obtain ⟨a, c, xs, h1, h2, _⟩ := rows_of (α := Int) 1 (by omega) (by kernel_rfl) Try.underlying24 (fun y => [.int .i64 y]) (fun _ => True) (fun _ => rfl) (fun es he => by obtain ⟨y, hy, _⟩ := he.int Try.underlying3; exact ⟨y, trivial, hy⟩) h
  refine ⟨a, c, xs, h1, ⟨fun i x hx => ?_⟩⟩
  obtain ⟨g, o, ha, hg, hc⟩ := h2 i x hx
  exact ⟨g, o, ha, hg, by have := hc 0 _ rfl; simpa using this⟩
theorem szs_of {H : Type} {enc : TypeId × Value → H} {w : World} {base : Nat} {held : Bool} {spare : Nat → Bool} {es : List Value} (he : Rd enc Try.prog w base spare held 23 es) : ∃ r b m : Int, es = [.int .i64 r, .int .i64 b, .int .i64 m] := by
  have c3 : Try.prog.cellsOf 23 = 3 := by kernel_rfl
  have ci : Try.prog.cellsOf 3 = 1 := by kernel_rfl
  have hlen := he.len Try.underlying23
  rw [c3] at hlen
  obtain ⟨n0, e0, _⟩ := (he.field Try.underlying23 0 _ rfl).int Try.underlying3
  obtain ⟨n1, e1, _⟩ := (he.field Try.underlying23 1 _ rfl).int Try.underlying3
  obtain ⟨n2, e2, _⟩ := (he.field Try.underlying23 2 _ rfl).int Try.underlying3
  change (es.drop 0).take (Try.prog.cellsOf 3) = _ at e0
  change (es.drop 1).take (Try.prog.cellsOf 3) = _ at e1
  change (es.drop 2).take (Try.prog.cellsOf 3) = _ at e2
  rw [ci] at e0 e1 e2
  have g0 := at_of e0
  have g1 := at_of e1
  have g2 := at_of e2
  refine ⟨n0, n1, n2, ?_⟩
  match es, hlen with
  | [p, q, r], _ =>
    simp only [List.getElem?_cons_zero, List.getElem?_cons_succ, Option.some.injEq] at g0 g1 g2
    rw [g0, g1, g2]
theorem first_law (rate burst room0 : Int) (a : Option Addr) (c : Nat) (rk : List Int) (w : World) (hr : IntR w a rk) :
    Calls Try.prog 3 #[.agg #[.int .i64 rate, .int .i64 burst, .int .i64 room0], .slice a rk.length c] w fun e w' => e = .returned (.bool true) ∧ Kept [] w w' := by
  by_cases h : rate < 1 ∨ 100000 < rate ∨ burst < 1 ∨ 100000 < burst ∨ 100 < (rk.length : Int)
  · exact first_bad rate burst room0 a c rk.length w h
  · obtain ⟨rt, rfl⟩ : ∃ rt : Nat, rate = (rt : Int) := ⟨rate.toNat, by omega⟩
    exact first_good rt burst room0 a c rk w hr (by omega) (by omega) (by omega)
end Go.Proofs.Ytgdofgckjkmhjaa.Mp
