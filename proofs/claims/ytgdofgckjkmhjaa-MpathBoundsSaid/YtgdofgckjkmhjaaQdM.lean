/- The queue of datagrams, in memory. -/
import Derived.Test.YtgdofgckjkmhjaaQdR
import Derived.Test.YtgdofgckjkmhjaaProg
import Derived.Handy
import Derived.LoopTactic
import Derived.Outline
import Derived.BigQuiet
import Derived.BigGuardPart
import Derived.Deep.RegionHeld3
import Derived.Deep.DeepCutAuto
import Derived.Deep.MidRow
namespace Go.Proofs.Ytgdofgckjkmhjaa.Qd
open Go Go.RowKit
structure Hx (p : Prop) : Prop where
  out : p
theorem hx {p : Prop} (h : p) : Hx p := ⟨h⟩
abbrev dvl (x : Dv) : List Value := dgl x.d x.p x.c
def itc (x : It) : List Value := .int .i64 x.rank :: .int .i64 x.turn :: dvl x.v
theorem itc_len (x : It) : (itc x).length = 13 := rfl
theorem dvl_len (x : Dv) : (dvl x).length = 11 := rfl
theorem dvl_one (x : Dv) : ∀ u ∈ dvl x, u.oneCell' = true := by
  intro u hu
  simp only [dvl, dgl, List.mem_cons, List.not_mem_nil, or_false] at hu
  rcases hu with rfl | rfl | rfl | rfl | rfl | rfl | rfl | rfl | rfl | rfl | rfl <;> rfl
theorem itc_one (x : It) : ∀ u ∈ itc x, u.oneCell' = true := by
  intro u hu
  simp only [itc, List.mem_cons] at hu
  rcases hu with rfl | rfl | hu
  · rfl
  · rfl
  · exact dvl_one x.v u hu
def cel (h : List It) : List Value := h.flatMap itc
theorem cel_len (h : List It) : (cel h).length = 13 * h.length := by
  induction h with
  | nil => rfl
  | cons x h ih => simp only [cel, List.flatMap_cons, List.length_append, List.length_cons] at *; rw [itc_len]; omega
theorem cel_at (h : List It) : ∀ i, i < h.length → ∀ k, k < 13 → (cel h)[i * 13 + k]? = (itc (at_ h i))[k]? := by
  induction h with
  | nil => intro i hi; simp at hi
  | cons x h ih =>
    intro i hi k hk
    have e : cel (x :: h) = itc x ++ cel h := by simp [cel]
    rw [e]
    rcases Nat.eq_zero_or_pos i with rfl | h0
    · rw [List.getElem?_append_left (by rw [itc_len]; omega)]
      simp [at_]
    · obtain ⟨j, rfl⟩ : ∃ j, i = j + 1 := ⟨i - 1, by omega⟩
      rw [List.getElem?_append_right (by rw [itc_len]; omega)]
      have := ih j (by simpa using hi) k hk
      rw [itc_len, show (j + 1) * 13 + k - 13 = j * 13 + k by omega, this]
      simp [at_]
theorem cel_set (h : List It) (rest : List Value) (i : Nat) (x : It) (hi : i < h.length) : setAll (cel h ++ rest) (i * 13) (itc x) = cel (h.set i x) ++ rest := by
  apply List.ext_getElem?
  intro j
  have hl := cel_len h
  have hl2 := cel_len (h.set i x)
  rw [List.length_set] at hl2
  rw [setAll_get _ _ _ (by rw [itc_len, List.length_append]; omega), itc_len]
  by_cases hj : j < (cel h).length
  · rw [List.getElem?_append_left hj, List.getElem?_append_left (by omega)]
    have e := cel_at h (j / 13) (by omega) (j % 13) (by omega)
    have e2 := cel_at (h.set i x) (j / 13) (by simp; omega) (j % 13) (by omega)
    rw [show j / 13 * 13 + j % 13 = j by omega] at e e2
    rw [e, e2, at_set _ _ _ _ hi]
    by_cases h0 : i * 13 ≤ j ∧ j < i * 13 + 13
    · rw [if_pos h0, if_pos (by omega), show j - i * 13 = j % 13 by omega]
    · rw [if_neg h0, if_neg (by omega)]
  · rw [if_neg (by omega), List.getElem?_append_right (by omega), List.getElem?_append_right (by omega), hl, hl2]
/-- A queue that has a row of items. -/
structure Qm (w : World) (q g cap : Nat) (room turns : Int) (h : List It) (rest : List Value) : Prop where
  hq : Blk w q [.int .i64 room, .int .i64 turns, .slice (some ⟨g, 0, none⟩) h.length cap] 79
  hg : Blk w g (cel h ++ rest) 81
  hl : h.length ≤ cap
  hcap : cap ≤ maxLen
  hrest : (cel h ++ rest).length = cap * 13
  hne : q ≠ g
theorem Qm.at {w : World} {q g cap : Nat} {room turns : Int} {h : List It} {rest : List Value} (m : Qm w q g cap room turns h rest) (i : Nat) (hi : i < h.length) : w.rangeAt g (i * 13) (itc (at_ h i)) := by
  intro j v hv
  have hl := cel_len h
  have hj : j < 13 := by have := (List.getElem?_eq_some_iff.1 hv).1; rw [itc_len] at this; exact this
  refine m.hg.cell ?_
  rw [List.getElem?_append_left (by omega), cel_at h i hi j hj]
  exact hv
theorem Qm.there {w : World} {q g cap : Nat} {room turns : Int} {h : List It} {rest : List Value} (m : Qm w q g cap room turns h rest) (i : Nat) (hi : i < h.length) : w.there g (i * 13) 13 := by
  have hl := cel_len h
  exact m.hg.there (by rw [List.length_append]; omega)
theorem Qm.frame {w w' : World} {q g cap : Nat} {room turns : Int} {h : List It} {rest : List Value} (m : Qm w q g cap room turns h rest) {bs : List Nat} (hk : Kept bs w w') (h1 : q ∉ bs) (h2 : g ∉ bs) : Qm w' q g cap room turns h rest :=
  ⟨hk.blk m.hq h1, hk.blk m.hg h2, m.hl, m.hcap, m.hrest, m.hne⟩
theorem Qm.kept {w w' : World} {q g cap : Nat} {room turns : Int} {h : List It} {rest : List Value} (m : Qm w q g cap room turns h rest) (hk : Kept [] w w') : Qm w' q g cap room turns h rest := m.frame hk (by simp) (by simp)
theorem Qm.put {w : World} {q g cap : Nat} {room turns : Int} {h : List It} {rest : List Value} (m : Qm w q g cap room turns h rest) (i : Nat) (hi : i < h.length) (x : It) : Qm (w.setCells g (i * 13) (itc x)) q g cap room turns (h.set i x) rest := by
  have hg := m.hg.setCells (i * 13) (itc x)
  have hc := cel_set h rest i x hi
  rw [hc] at hg
  have hq := m.hq.setCells_ne m.hne (i * 13) (itc x)
  refine ⟨by rw [List.length_set]; exact hq, hg, by rw [List.length_set]; exact m.hl, m.hcap, ?_, m.hne⟩
  have := m.hrest
  simp only [List.length_append, cel_len, List.length_set] at *
  exact this
theorem size_setCells (g : Nat) : ∀ (vs : List Value) (o : Nat) (w : World), (w.setCells g o vs).heap.size = w.heap.size
  | [], _, _ => rfl
  | v :: r, o, w => by
    rw [World.setCells, size_setCells g r (o + 1)]
    simp [World.setCell]
theorem infoIt : (Try.prog.info? 81).map (·.size) = some 13 := by kernel_rfl
theorem infoDg : (Try.prog.info? 34).map (·.size) = some 11 := by kernel_rfl
section
variable {P : Program} {md : Region.Mode} {ops : Array Oper} {Q : Exit → Act → World → Prop} {S : World → Prop}
theorem take_by (i d : Nat) {oi : Oper} {v : Value} {fuel : Nat} {listed : Array Bool} {a : Act} {w : World} (hi : ops[i]? = some oi) (hd : oi.dst = some d)
    (hs : Region.noSelect ops = true) (hf : Region.free md ops listed i = true) (hr : (Region.ready md ops listed).contains i = true)
    (hQ : ∀ c a w, Q (.panic c) (a.put oi.dst v) w → Q (.panic c) a w) (hy : YieldsIf P ops S oi v a) (hS : S w)
    (h : wpAnyH P md ops Q S fuel (listed.setIfInBounds i true) { tmps := a.tmps.setIfInBounds d v, defers := a.defers } w) : wpAnyH P md ops Q S (fuel + 1) listed a w := by
  refine wpAnyH_take hi hs hf hr hQ hy hS ?_
  rw [hd]
  exact h
end
theorem step_of {P : Program} {ops : Array Oper} {o : Oper} {a : Act} {w : World} {K : Act → World → Prop} {Q : Exit → Act → World → Prop} {E : Prop} (hgd : o.guard = none) (h : o.wp P a w K Q) : if Region.wanted o (yielded ops a.tmps) = true then o.wp P a w K Q else E := by
  rw [if_pos (by simp [Region.wanted, hgd])]
  exact h
theorem wp_loadIt {w : World} {q g cap i : Nat} {room turns : Int} {h : List It} {rest : List Value} {ops : Array Oper} {o : Oper} {a : Act} {K : Act → World → Prop} {Q : Exit → Act → World → Prop} {E : Prop} (hgd : o.guard = none) (x : Operand) (ho : o.op = .load 81 x)
    (m : Qm w q g cap room turns h rest) (hi : i < h.length) (hx : a.eval x = .pointer (some ⟨g, i * 13, none⟩)) (hK : K (a.put o.dst (.agg (itc (at_ h i)).toArray)) w) : if Region.wanted o (yielded ops a.tmps) = true then o.wp Try.prog a w K Q else E :=
  step_of hgd (wp_load_mid 81 x ho g (i * 13) hx (itc (at_ h i)) _ (m.at i hi) Try.underlying81 rfl (by kernel_rfl) hK)
theorem wp_storeIt {w w0 : World} {q g cap i : Nat} {room turns : Int} {h : List It} {rest : List Value} {bs : List Nat} {ops : Array Oper} {o : Oper} {a : Act} {K : Act → World → Prop} {Q : Exit → Act → World → Prop} {E : Prop} (hgd : o.guard = none) (x y : Operand) (ho : o.op = .store 81 x y)
    (m : Qm w q g cap room turns h rest) (hi : i < h.length) (z : It) (hx : a.eval x = .pointer (some ⟨g, i * 13, none⟩)) (hy : a.eval y = .agg (itc z).toArray) (k : Kept bs w0 w) (hg : g ∈ bs ∨ w0.heap.size ≤ g)
    (hK : ∀ W', Qm W' q g cap room turns (h.set i z) rest → Kept bs w0 W' → W'.heap.size = w.heap.size → (∀ b T xs, b ≠ g → Blk w b xs T → Blk W' b xs T) → K (a.put o.dst undef) W') : if Region.wanted o (yielded ops a.tmps) = true then o.wp Try.prog a w K Q else E :=
  step_of hgd (wp_store_mid 81 x y ho g (i * 13) (itc z).toArray hx hy (m.there i hi) (by kernel_rfl) (all_oneCell_toArray (itc_one _)) (hK _ (m.put i hi z) (k.setCells hg _ _) (size_setCells _ _ _ _) (fun _ _ _ hne hb => hb.setCells_ne hne _ _)))
set_option maxRecDepth 100000 in
set_option maxHeartbeats 800000 in
theorem ahead_any (x y : It) (w : World) :
    Calls Try.prog 41 #[.agg (itc x).toArray, .agg (itc y).toArray] w fun e w' => e = .returned (.bool (ahB x y)) ∧ Kept [] w w' := by
  have b1 := (Blk.new w (itc x) 81).alloc (.cells (itc y).toArray 81)
  have b2 := Blk.new (w.alloc (.cells (itc x).toArray 81)) (itc y) 81
  rw [show (w.alloc (.cells (itc x).toArray 81)).heap.size = w.heap.size + 1 by simp] at b2
  have c0 := b1.cell (i := 0) (v := .int .i64 x.rank) rfl
  have c1 := b1.cell (i := 1) (v := .int .i64 x.turn) rfl
  have d0 := b2.cell (i := 0) (v := .int .i64 y.rank) rfl
  have d1 := b2.cell (i := 1) (v := .int .i64 y.turn) rfl
  clear b1 b2
  go_enter Try.func41, Try.ntmps41
  go_wp2
  all_goals
    try simp only [beq_iff_eq] at *
    try simp only [beq_eq_false_iff_ne] at *
    go_ret
    refine ⟨ret_bool ?_, ((Kept.refl _ _).alloc _).alloc _⟩
    unfold ahB
    first | exact (decide_eq_false (by omega)).symm | exact (decide_eq_true (by omega)).symm | exact decide_eq_decide.2 (by omega)
end Go.Proofs.Ytgdofgckjkmhjaa.Qd
