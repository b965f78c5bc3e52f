/- The queue's Pop and Peek. Printed by k/gen_qdc.py. -/
import Derived.Test.YtgdofgckjkmhjaaQdB
namespace Go.Proofs.Ytgdofgckjkmhjaa.Qd
open Go Go.RowKit
theorem step_storeB {P : Program} {w : World} {ops : Array Oper} {o : Oper} {a : Act} {K : Act → World → Prop} {Q : Exit → Act → World → Prop} {E : Prop} (hgd : o.guard = none) (ty : TypeId) (x y : Operand) (ho : o.op = .store ty x y)
    (g : Nat) (hx : a.eval x = .pointer (some ⟨g, 0, none⟩)) (T : TypeId) (xs ys : List Value) (hy : a.eval y = .agg ys.toArray) (hb : Blk w g xs T) (hl : ys.length = xs.length)
    (hi : (P.info? ty).map (·.size) = some ys.length) (h1 : ∀ v ∈ ys, v.oneCell' = true)
    (h : ∀ w', Blk w' g ys T → Kept [g] w w' → K (a.put o.dst undef) w') : if Region.wanted o (yielded ops a.tmps) = true then o.wp P a w K Q else E :=
  step_of hgd (wp_store_mid ty x y ho g 0 ys.toArray hx hy (hb.there (by simp [hl])) (by simpa using hi) (all_oneCell_toArray h1)
    (h _ (by
      have e := hb.setCells 0 ys
      rw [setAll_all _ _ hl] at e
      simpa using e) ((Kept.refl _ _).setCells (by simp) 0 _)))
theorem ret_blk13 {P : Program} {w : World} {fn : Func} {p q r : Tmp} {ty : TypeId} (h : fn.results = #[.cell p ty, .tmp q, .tmp r]) (tmps : Array Value) (g : Nat) (T : TypeId) (xs : List Value) (v u : Value) (d : TypeDesc)
    (hp : tmps.getD p undef = .pointer (some ⟨g, 0, none⟩)) (hq : tmps.getD q undef = v) (hr : tmps.getD r undef = u) (hb : Blk w g xs T)
    (hu : P.underlying ty = some d) (hd : (match d with | .struct _ | .array _ _ => true | _ => false) = true) (hi : (P.info? ty).map (·.size) = some xs.length) :
    (results fn tmps).run P w = .ok (.tuple #[.agg xs.toArray, v, u]) w := by
  have hp' : tmps[p]?.getD undef = .pointer (some ⟨g, 0, none⟩) := by simpa using hp
  have hq' : tmps[q]?.getD undef = v := by simpa using hq
  have hr' : tmps[r]?.getD undef = u := by simpa using hr
  simp [results, h, hp', hq', hr', asAddr, run_loadVar_row w g T ty xs.toArray (0, 0) d hb hu hd (by simpa using hi)]
theorem itc_rest {w : World} {b o : Nat} {y : It} (h : w.rangeAt b o (itc y)) : w.cell? ⟨b, o, none⟩ = some (.int .i64 y.rank) ∧ w.rangeAt b (o + 2) (dvl y.v) :=
  ⟨h 0 _ rfl, fun j v hv => by
    have h2 := h (2 + j) v (by rw [show 2 + j = j + 1 + 1 by omega]; exact hv)
    rw [show o + 2 + j = o + (2 + j) by omega]
    exact h2⟩
def PopP (w : World) (q : Nat) (v : Value) (room turns : Int) (h : List It) (e : Ending) (w' : World) : Prop :=
  e = .returned (.tuple #[.agg (dvl (at_ h 0).v).toArray, .int .i64 (at_ h 0).rank, .bool true]) ∧ ∃ v', Qs w' q v' room turns (takeL h 0) ∧ Kept (q :: v.ownBlock.toList) w w' ∧ v'.ownBlock = v.ownBlock
set_option linter.unusedSimpArgs false in
set_option maxRecDepth 100000 in
set_option maxHeartbeats 6400000 in
theorem pop_some (q : Nat) (v : Value) (room turns : Int) (h : List It) (w : World) (s : Qs w q v room turns h) (h0 : 0 < h.length) (hb : h.length ≤ 1000000) :
    Calls Try.prog 21 #[.pointer (some ⟨q, 0, none⟩)] w (PopP w q v room turns h) := by
  obtain ⟨g, cap, rest, rfl, m⟩ := s.toQm h0
  clear s
  have hql := m.hq.lt
  have hgl := m.hg.lt
  have hz : ((h.length : Int) == 0) = false := beq_eq_false_iff_ne.2 (by omega)
  have HP := hx (show PopP w q (.slice (some ⟨g, 0, none⟩) h.length cap) room turns h = fun e w' => e = .returned (.tuple #[.agg (dvl (at_ h 0).v).toArray, .int .i64 (at_ h 0).rank, .bool true]) ∧ ∃ v', Qs w' q v' room turns (takeL h 0) ∧ Kept (q :: (Value.slice (some ⟨g, 0, none⟩) h.length cap).ownBlock.toList) w w' ∧ v'.ownBlock = (Value.slice (some ⟨g, 0, none⟩) h.length cap).ownBlock from rfl)
  have HL := hx (And.intro h0 hb)
  go_enter Try.func21, Try.ntmps21
  go_upto_region 1 with fail
  generalize hw0 : World.alloc w _ = w0
  have hk0 : Kept [] w w0 := by rw [← hw0]; exact (Kept.refl _ _).alloc _
  have hb2 : Blk w0 w.heap.size (dvl dv0) 34 := by rw [← hw0]; exact Blk.new w (dvl dv0) _
  clear hw0
  have m0 := m.kept hk0
  have c2 : w0.cell? ⟨q, 2, none⟩ = some (.slice (some ⟨g, 0, none⟩) h.length cap) := m0.hq.cell (i := 2) rfl
  have HT := hx (take_any q g cap 0 0 room turns h rest w0 m0 HL.out.1 HL.out.2 rfl)
  have K0 := hx hk0
  have H2 := hx hb2
  have HLT := hx (And.intro hql hgl)
  clear m m0 hk0 hb2 h0 hb
  go_upto_region 4 with fail
  clear hz c2
  obtain ⟨y, hy⟩ : ∃ y, at_ h 0 = y := ⟨_, rfl⟩
  rw [hy] at HT HP
  go_upto_region 5 with (first
    | (go_at_call 29; refine HT.out.mono ?_; rintro e w1 ⟨rfl, m1, hk1⟩; have M1 := hx m1; have K1 := hx hk1; have HB1 := hx (hk1.blk H2.out (by have := HLT.out; simp; omega)); clear m1 hk1)
    | (refine store_blk rfl 81 (.tmp 6) (.tmp 15) rfl w1.heap.size rfl 81 _ (itc y) rfl (Blk.new w1 (itc it0) 81) rfl infoIt (itc_one _) ?_; intro w2 hb6 hk2; have B6 := hx hb6; have K2 := hx (((Kept.refl [] w1).alloc _).trans hk2 (ds := []) (fun _ h => h) (fun x h => by simp at h; subst h; exact .inr (Nat.le_refl _))); clear hb6 hk2))
  obtain ⟨b6, hb6⟩ : ∃ b6, w1.heap.size = b6 := ⟨_, rfl⟩
  have hlt1 := HB1.out.lt
  rw [hb6] at B6 hlt1
  have HNE := hx (show b6 ≠ w.heap.size by omega)
  rw [hb6]
  have HB2 := hx ((K2.out.blk HB1.out (by simp)).drew)
  have HSP := hx (show (fun w3 => w3.cell? ⟨b6, 0, none⟩ = some (.int .i64 y.rank) ∧ w3.rangeAt b6 2 (dvl y.v)) w2.drew from ⟨B6.out.drew.cell (i := 0) rfl, by have h := itc_rest B6.out.drew.range; rw [Nat.zero_add] at h; exact h.2⟩)
  have HSS := hx (fun (w3 : World) (hk : Kept [w.heap.size] w2.drew w3) => show (fun w3 => w3.cell? ⟨b6, 0, none⟩ = some (.int .i64 y.rank) ∧ w3.rangeAt b6 2 (dvl y.v)) w3 from (by
    have b := hk.blk B6.out.drew (by have := HNE.out; simp; omega)
    exact ⟨b.cell (i := 0) rfl, by have h := itc_rest b.range; rw [Nat.zero_add] at h; exact h.2⟩))
  clear hb6 hlt1 hql hgl
  refine wp_region_held_drew (S := (fun w3 => w3.cell? ⟨b6, 0, none⟩ = some (.int .i64 y.rank) ∧ w3.rangeAt b6 2 (dvl y.v))) (by kernel_rfl) (HSP.out) (fun hHeld => ?_)
  refine take_by 0 16 (v := ?_) rfl rfl (by kernel_rfl) (by kernel_rfl) (by kernel_rfl) (fun _ _ _ h => h) (Or.inl ⟨by rfl, ?_⟩) (by assumption) ?_
  rotate_left
  · (intro w hSw; (try dsimp only at hSw); go_simp; try with_reducible rfl)
  try simp only [List.setIfInBounds_toArray, List.set_cons_zero, List.set_cons_succ]
  refine take_by 1 17 (v := .agg (dvl y.v).toArray) rfl rfl (by kernel_rfl) (by kernel_rfl) (by kernel_rfl) (fun _ _ _ h => h) (yieldsIf_load_mid (by rfl) 34 (.tmp 16) rfl b6 (2) rfl (dvl y.v) _ (fun _ hS => hS.2) Try.underlying34 rfl (by kernel_rfl)) (by assumption) ?_
  try simp only [List.setIfInBounds_toArray, List.set_cons_zero, List.set_cons_succ]
  refine take_by 2 18 (v := ?_) rfl rfl (by kernel_rfl) (by kernel_rfl) (by kernel_rfl) (fun _ _ _ h => h) (Or.inl ⟨by rfl, ?_⟩) (by assumption) ?_
  rotate_left
  · (intro w hSw; (try dsimp only at hSw); go_simp; try with_reducible rfl)
  try simp only [List.setIfInBounds_toArray, List.set_cons_zero, List.set_cons_succ]
  refine take_by 3 19 (v := ?_) rfl rfl (by kernel_rfl) (by kernel_rfl) (by kernel_rfl) (fun _ _ _ h => h) (Or.inl ⟨by rfl, ?_⟩) (by assumption) ?_
  rotate_left
  · (intro w hSw; (try dsimp only at hSw); go_simp; try with_reducible rfl)
  try simp only [List.setIfInBounds_toArray, List.set_cons_zero, List.set_cons_succ]
  refine wpAnyH_ready (rs := [4]) (by kernel_rfl) (by simp) ?_
  refine AllReadyH.cons rfl (fun K hK => ?_) AllReadyH.nil
  refine step_storeB rfl 34 (.tmp 2) (.tmp 17) rfl w.heap.size rfl 34 (dvl dv0) (dvl y.v) rfl HB2.out rfl infoDg (dvl_one _) ?_
  intro w9 hb9 hk9
  have B9 := hx hb9
  have K9 := hx hk9
  clear hb9 hk9
  refine hK.out _ _ (HSS.out _ K9.out) (fun _ => ?_)
  clear hK K
  try simp only [Act.put, List.getElem_toArray, List.getElem_cons_succ, List.getElem_cons_zero, List.setIfInBounds_toArray, List.set_cons_zero, List.set_cons_succ]
  refine take_by 5 3 (v := ?_) rfl rfl (by kernel_rfl) (by kernel_rfl) (by kernel_rfl) (fun _ _ _ h => h) (Or.inl ⟨by rfl, ?_⟩) (by assumption) ?_
  rotate_left
  · (intro w hSw; (try dsimp only at hSw); go_simp; try with_reducible rfl)
  try simp only [List.setIfInBounds_toArray, List.set_cons_zero, List.set_cons_succ]
  refine take_by 6 4 (v := ?_) rfl rfl (by kernel_rfl) (by kernel_rfl) (by kernel_rfl) (fun _ _ _ h => h) (Or.inl ⟨by rfl, ?_⟩) (by assumption) ?_
  rotate_left
  · (intro w hSw; (try dsimp only at hSw); go_simp; try with_reducible rfl)
  try simp only [List.setIfInBounds_toArray, List.set_cons_zero, List.set_cons_succ]
  refine wpAnyH_done (by kernel_rfl) ?_ _
  go_wp2_with fail
  refine bodyPost_ret (ret_blk13 rfl _ w.heap.size _ _ _ _ _ rfl rfl rfl B9.out Try.underlying34 rfl infoDg) rfl ?_
  rw [HP.out]
  have hfin : Kept [w.heap.size] w1 w9 := (K2.out.drew.mono (by simp)).trans K9.out (fun _ h => h) (fun _ h => .inl h)
  refine ⟨rfl, _, (M1.out.frame hfin (by have := HLT.out; simp; omega) (by have := HLT.out; simp; omega)).toQs, ?_, rfl⟩
  exact ((K0.out.mono (cs := q :: [g]) (by simp)).trans K1.out (fun _ h => h) (fun x hx => .inl (by simpa using hx))).trans hfin (fun _ h => h) (fun x hx => by simp at hx; subst hx; exact .inr (Nat.le_refl _))
/-- What a peek tells. -/
def peekV : List It → Dv × Int × Bool
  | [] => (dv0, 0, false)
  | x :: _ => (x.v, x.rank, true)
set_option linter.unusedSimpArgs false in
set_option maxRecDepth 100000 in
set_option maxHeartbeats 6400000 in
theorem peek_any (q : Nat) (v : Value) (room turns : Int) (h : List It) (w : World) (s : Qs w q v room turns h) :
    Calls Try.prog 17 #[.pointer (some ⟨q, 0, none⟩)] w fun e w' => e = .returned (.tuple #[.agg (dvl (peekV h).1).toArray, .int .i64 (peekV h).2.1, .bool (peekV h).2.2]) ∧ Kept [] w w' := by
  have hql := s.hq.lt
  cases h with
  | nil =>
    have hv : ∃ a c, v = .slice a 0 c := by
      rcases s.own.2 with ⟨rfl, _⟩ | ⟨g, cap, cur, rfl, _⟩
      · exact ⟨_, _, rfl⟩
      · exact ⟨_, _, rfl⟩
    obtain ⟨a, c, rfl⟩ := hv
    have HS := hx s
    clear s
    go_enter Try.func17, Try.ntmps17
    go_upto_region 1 with fail
    generalize hw0 : World.alloc w _ = w0
    have hk0 : Kept [] w w0 := by rw [← hw0]; exact (Kept.refl _ _).alloc _
    have hb2 : Blk w0 w.heap.size (dvl dv0) 34 := by rw [← hw0]; exact Blk.new w (dvl dv0) _
    clear hw0
    have c2 := (hk0.blk HS.out.hq (by simp)).cell (i := 2) rfl
    have HZ8 := hx (Blk.new w0 (dvl dv0) 34)
    have HA4 := hx ((Kept.refl [] w0).alloc (.cells (dvl dv0).toArray 34))
    have H2 := hx hb2
    have K0 := hx hk0
    clear hb2 hk0
    go_wp2_with (first
      | (refine load_blk rfl 34 (.tmp 5) rfl w0.heap.size rfl 34 _ _ HZ8.out Try.underlying34 rfl infoDg ?_)
      | (refine store_blk rfl 34 (.tmp 2) (.tmp 12) rfl w.heap.size rfl 34 _ (dvl dv0) rfl (HA4.out.blk H2.out (by simp)) rfl infoDg (dvl_one _) ?_; intro w7 hb7 hk7; have HB7 := hx hb7; have HK7 := hx hk7; clear hb7 hk7))
    exact bodyPost_ret (ret_blk13 rfl _ w.heap.size _ _ _ _ _ rfl rfl rfl HB7.out Try.underlying34 rfl infoDg) rfl ⟨rfl, (K0.out.trans0 HA4.out).trans HK7.out (fun _ h => h) (fun x hx => by simp at hx; subst hx; exact .inr (Nat.le_refl _))⟩
  | cons y h =>
    obtain ⟨g, cap, rest, rfl, m⟩ := s.toQm (by simp)
    have hgl := m.hg.lt
    have hl : (0 : Int) < (((y :: h).length : Nat) : Int) := by simp <;> omega
    have hne : ((((y :: h).length : Nat) : Int) == 0) = false := by simp; omega
    have M := hx m
    have hn0 : 0 < (y :: h).length := by simp
    obtain ⟨N, hN⟩ : ∃ N, (y :: h).length = N := ⟨_, rfl⟩
    have hS0 : ∀ (bs : List Nat) (w3 : World), Kept bs w w3 → q ∉ bs → g ∉ bs → (fun w3 => w3.cell? ⟨q, 2, none⟩ = some (.slice (some ⟨g, 0, none⟩) N cap) ∧ w3.cell? ⟨g, 0, none⟩ = some (.int .i64 y.rank) ∧ w3.rangeAt g 2 (dvl y.v)) w3 := fun bs w3 hk h1 h2 => by
      have m3 := m.frame hk h1 h2
      have hr := itc_rest (m3.at 0 hn0)
      rw [Nat.zero_mul, Nat.zero_add] at hr
      have hq := m3.hq.cell (i := 2) rfl
      rw [hN] at hq
      exact ⟨hq, hr.1, hr.2⟩
    have HS0 := hx hS0
    have HLT := hx (And.intro hql hgl)
    rw [hN] at hl hne
    have hnn : 0 < N := by omega
    have hcq := m.hq
    rw [hN] at hcq
    have HCQ := hx hcq
    clear s m M hS0 hn0 hN hcq
    go_enter Try.func17, Try.ntmps17
    go_upto_region 1 with fail
    generalize hw0 : World.alloc w _ = w0
    have hk0 : Kept [] w w0 := by rw [← hw0]; exact (Kept.refl _ _).alloc _
    have hb2 : Blk w0 w.heap.size (dvl dv0) 34 := by rw [← hw0]; exact Blk.new w (dvl dv0) _
    clear hw0
    have c2 := (hk0.blk HCQ.out (by simp)).cell (i := 2) rfl
    have HB2 := hx hb2.drew
    have K0 := hx hk0
    clear hb2 hk0
    go_upto_region 4 with fail
    have HSP := hx (HS0.out [] w0.drew K0.out.drew (by simp) (by simp))
    have HSS := hx (fun (w3 : World) (hk : Kept [w.heap.size] w0.drew w3) => HS0.out [w.heap.size] w3 ((K0.out.drew.mono (by simp)).trans hk (fun _ h => h) (fun _ h => .inl h)) (by have := HLT.out; simp; omega) (by have := HLT.out; simp; omega))
    clear c2
    refine wp_region_held_drew (S := (fun w3 => w3.cell? ⟨q, 2, none⟩ = some (.slice (some ⟨g, 0, none⟩) N cap) ∧ w3.cell? ⟨g, 0, none⟩ = some (.int .i64 y.rank) ∧ w3.rangeAt g 2 (dvl y.v))) (by kernel_rfl) (HSP.out) (fun hHeld => ?_)
    refine take_by 0 13 (v := ?_) rfl rfl (by kernel_rfl) (by kernel_rfl) (by kernel_rfl) (fun _ _ _ h => h) (Or.inl ⟨by rfl, ?_⟩) (by assumption) ?_
    rotate_left
    · (intro w hSw; (try dsimp only at hSw); go_simp; try with_reducible rfl)
    try simp only [List.setIfInBounds_toArray, List.set_cons_zero, List.set_cons_succ]
    refine take_by 1 14 (v := ?_) rfl rfl (by kernel_rfl) (by kernel_rfl) (by kernel_rfl) (fun _ _ _ h => h) (Or.inl ⟨by rfl, ?_⟩) (by assumption) ?_
    rotate_left
    · (intro w hSw; (try dsimp only at hSw); go_simp; try with_reducible rfl)
    try simp only [List.setIfInBounds_toArray, List.set_cons_zero, List.set_cons_succ]
    refine take_by 2 15 (v := ?_) rfl rfl (by kernel_rfl) (by kernel_rfl) (by kernel_rfl) (fun _ _ _ h => h) (Or.inl ⟨by rfl, ?_⟩) (by assumption) ?_
    rotate_left
    · (intro w hSw; (try dsimp only at hSw); go_simp; try with_reducible rfl)
    try simp only [List.setIfInBounds_toArray, List.set_cons_zero, List.set_cons_succ]
    refine take_by 3 16 (v := ?_) rfl rfl (by kernel_rfl) (by kernel_rfl) (by kernel_rfl) (fun _ _ _ h => h) (Or.inl ⟨by rfl, ?_⟩) (by assumption) ?_
    rotate_left
    · (intro w hSw; (try dsimp only at hSw); go_simp; try with_reducible rfl)
    try simp only [List.setIfInBounds_toArray, List.set_cons_zero, List.set_cons_succ]
    refine take_by 4 17 (v := ?_) rfl rfl (by kernel_rfl) (by kernel_rfl) (by kernel_rfl) (fun _ _ _ h => h) (Or.inl ⟨by rfl, ?_⟩) (by assumption) ?_
    rotate_left
    · (intro w hSw; (try dsimp only at hSw); go_simp; try with_reducible rfl)
    try simp only [List.setIfInBounds_toArray, List.set_cons_zero, List.set_cons_succ]
    refine take_by 5 18 (v := ?_) rfl rfl (by kernel_rfl) (by kernel_rfl) (by kernel_rfl) (fun _ _ _ h => h) (Or.inl ⟨by rfl, ?_⟩) (by assumption) ?_
    rotate_left
    · (intro w hSw; (try dsimp only at hSw); go_simp; try with_reducible rfl)
    try simp only [List.setIfInBounds_toArray, List.set_cons_zero, List.set_cons_succ]
    refine take_by 6 19 (v := .agg (dvl y.v).toArray) rfl rfl (by kernel_rfl) (by kernel_rfl) (by kernel_rfl) (fun _ _ _ h => h) (yieldsIf_load_mid (by rfl) 34 (.tmp 18) rfl g (2) rfl (dvl y.v) _ (fun _ hS => hS.2.2) Try.underlying34 rfl (by kernel_rfl)) (by assumption) ?_
    try simp only [List.setIfInBounds_toArray, List.set_cons_zero, List.set_cons_succ]
    refine take_by 7 20 (v := ?_) rfl rfl (by kernel_rfl) (by kernel_rfl) (by kernel_rfl) (fun _ _ _ h => h) (Or.inl ⟨by rfl, ?_⟩) (by assumption) ?_
    rotate_left
    · (intro w hSw; (try dsimp only at hSw); go_simp; try with_reducible rfl)
    try simp only [List.setIfInBounds_toArray, List.set_cons_zero, List.set_cons_succ]
    refine take_by 8 21 (v := ?_) rfl rfl (by kernel_rfl) (by kernel_rfl) (by kernel_rfl) (fun _ _ _ h => h) (Or.inl ⟨by rfl, ?_⟩) (by assumption) ?_
    rotate_left
    · (intro w hSw; (try dsimp only at hSw); go_simp; try with_reducible rfl)
    try simp only [List.setIfInBounds_toArray, List.set_cons_zero, List.set_cons_succ]
    refine take_by 9 22 (v := ?_) rfl rfl (by kernel_rfl) (by kernel_rfl) (by kernel_rfl) (fun _ _ _ h => h) (Or.inl ⟨by rfl, ?_⟩) (by assumption) ?_
    rotate_left
    · (intro w hSw; (try dsimp only at hSw); go_simp; try with_reducible rfl)
    try simp only [List.setIfInBounds_toArray, List.set_cons_zero, List.set_cons_succ]
    refine take_by 10 23 (v := ?_) rfl rfl (by kernel_rfl) (by kernel_rfl) (by kernel_rfl) (fun _ _ _ h => h) (Or.inl ⟨by rfl, ?_⟩) (by assumption) ?_
    rotate_left
    · (intro w hSw; (try dsimp only at hSw); go_simp; try with_reducible rfl)
    try simp only [List.setIfInBounds_toArray, List.set_cons_zero, List.set_cons_succ]
    refine take_by 11 24 (v := ?_) rfl rfl (by kernel_rfl) (by kernel_rfl) (by kernel_rfl) (fun _ _ _ h => h) (Or.inl ⟨by rfl, ?_⟩) (by assumption) ?_
    rotate_left
    · (intro w hSw; (try dsimp only at hSw); go_simp; try with_reducible rfl)
    try simp only [List.setIfInBounds_toArray, List.set_cons_zero, List.set_cons_succ]
    refine take_by 12 25 (v := ?_) rfl rfl (by kernel_rfl) (by kernel_rfl) (by kernel_rfl) (fun _ _ _ h => h) (Or.inl ⟨by rfl, ?_⟩) (by assumption) ?_
    rotate_left
    · (intro w hSw; (try dsimp only at hSw); go_simp; try with_reducible rfl)
    try simp only [List.setIfInBounds_toArray, List.set_cons_zero, List.set_cons_succ]
    refine take_by 13 26 (v := ?_) rfl rfl (by kernel_rfl) (by kernel_rfl) (by kernel_rfl) (fun _ _ _ h => h) (Or.inl ⟨by rfl, ?_⟩) (by assumption) ?_
    rotate_left
    · (intro w hSw; (try dsimp only at hSw); go_simp; try with_reducible rfl)
    try simp only [List.setIfInBounds_toArray, List.set_cons_zero, List.set_cons_succ]
    refine wpAnyH_ready (rs := [14]) (by kernel_rfl) (by simp) ?_
    refine AllReadyH.cons rfl (fun K hK => ?_) AllReadyH.nil
    refine step_storeB rfl 34 (.tmp 2) (.tmp 19) rfl w.heap.size rfl 34 (dvl dv0) (dvl y.v) rfl HB2.out rfl infoDg (dvl_one _) ?_
    intro w9 hb9 hk9
    have B9 := hx hb9
    have K9 := hx hk9
    clear hb9 hk9
    refine hK.out _ _ (HSS.out _ K9.out) (fun _ => ?_)
    clear hK K
    try simp only [Act.put, List.getElem_toArray, List.getElem_cons_succ, List.getElem_cons_zero, List.setIfInBounds_toArray, List.set_cons_zero, List.set_cons_succ]
    refine take_by 15 3 (v := ?_) rfl rfl (by kernel_rfl) (by kernel_rfl) (by kernel_rfl) (fun _ _ _ h => h) (Or.inl ⟨by rfl, ?_⟩) (by assumption) ?_
    rotate_left
    · (intro w hSw; (try dsimp only at hSw); go_simp; try with_reducible rfl)
    try simp only [List.setIfInBounds_toArray, List.set_cons_zero, List.set_cons_succ]
    refine take_by 16 4 (v := ?_) rfl rfl (by kernel_rfl) (by kernel_rfl) (by kernel_rfl) (fun _ _ _ h => h) (Or.inl ⟨by rfl, ?_⟩) (by assumption) ?_
    rotate_left
    · (intro w hSw; (try dsimp only at hSw); go_simp; try with_reducible rfl)
    try simp only [List.setIfInBounds_toArray, List.set_cons_zero, List.set_cons_succ]
    refine wpAnyH_done (by kernel_rfl) ?_ _
    go_wp2_with fail
    exact bodyPost_ret (ret_blk13 rfl _ w.heap.size _ _ _ _ _ rfl rfl rfl B9.out Try.underlying34 rfl infoDg) rfl ⟨rfl, K0.out.drew.trans K9.out (fun _ h => h) (fun x hx => by simp at hx; subst hx; exact .inr (Nat.le_refl _))⟩
end Go.Proofs.Ytgdofgckjkmhjaa.Qd
