/- The first lines' numbers, where Parse has them. -/
import Derived.Test.YtdfbofkdlgfblaaDoorSeE
import Derived.Test.YtdfbofkdlgfblaaDoorSeC
namespace Go.Proofs.YtdfbofkdlgfblaaDoor
open Go Go.RowKit Go.Shelf
theorem RwI.cells {W : World} {B : Nat} {u : Value} {ns : List Int} (h : RwI W B u ns) : ∃ g c, u = .slice (some ⟨g, 0, none⟩) ns.length c ∧ ∀ (i : Nat) n, ns[i]? = some n → W.cell? ⟨g, i, none⟩ = some (.int .i64 n) := by
  obtain ⟨g, c, cur, rfl, _, hB, ht⟩ := h
  refine ⟨g, c, rfl, fun i n hi => hB.cell ?_⟩
  have hl : i < ns.length := (List.getElem?_eq_some_iff.1 hi).1
  have h2 : (cur.take ns.length)[i]? = some (.int .i64 n) := by rw [ht]; exact ints_get hi
  rwa [List.getElem?_take_of_lt hl] at h2
theorem setAll_front (ys xs zs : List Value) (h : ys.length = xs.length) : setAll (xs ++ zs) 0 ys = ys ++ zs := by
  apply List.ext_getElem?
  intro i
  rw [setAll_get _ _ _ (by simp; omega)]
  by_cases hi : i < ys.length
  · rw [if_pos ⟨by omega, by omega⟩, List.getElem?_append_left hi, Nat.sub_zero]
  · rw [if_neg (by omega), List.getElem?_append_right (by omega), List.getElem?_append_right (by omega), h]
/-- A store of a block's first cells. -/
theorem store_front {P : Program} {w : World} {ops : Array Oper} {rest : List Oper} {o : Oper} {a : Act} {Q : Exit → Act → World → Prop} (hgd : o.guard = none) (ty : TypeId) (x y : Operand) (ho : o.op = .store ty x y)
    (g : Nat) (hx : a.eval x = .pointer (some ⟨g, 0, none⟩)) (T : TypeId) (xs zs ys : List Value) (hy : a.eval y = .agg ys.toArray) (hb : Blk w g (xs ++ zs) T) (hl : ys.length = xs.length)
    (hi : (P.info? ty).map (·.size) = some ys.length) (h1 : ∀ v ∈ ys, v.oneCell' = true)
    (h : ∀ w', Blk w' g (ys ++ zs) T → Kept [g] w w' → wpList P ops Q rest (a.put o.dst undef) w') : wpList P ops Q (o :: rest) a w :=
  wpList_store_mid hgd ty x y ho g 0 ys.toArray hx hy (hb.there (by simp [hl])) (by simpa using hi) (all_oneCell_toArray h1)
    (h _ (by
      have e := hb.setCells 0 ys
      rw [setAll_front _ _ _ hl] at e
      simpa using e) ((Kept.refl _ _).setCells (by simp) 0 _))
theorem pa_hd {w0 W : World} {z k : Nat} {s : PSt} {hv av : Value} {us : List Value} (h : PaI w0 z k s hv av us W) (ho : HdOk s.1) (h4 : s.1.length = 4) :
    ∃ g r cap, hv = .slice (some ⟨g, 0, none⟩) 4 cap ∧ HdR W g r (gN s.1 0 0) (gN s.1 0 1) (gN s.1 0 2) (gN s.1 1 0) (gN s.1 1 1) (gN s.1 1 2) (gN s.1 2 0) (gN s.1 2 1) (gN s.1 3 0) (gN s.1 3 1) ∧
      smallI (gN s.1 0 0) = true ∧ smallI (gN s.1 3 0) = true ∧ smallI (gN s.1 3 1) = true := by
  obtain ⟨hs, xs⟩ := s
  dsimp only at *
  have hul := h.ul
  have hrow := h.hr
  have hrs := h.rows
  dsimp only at hul hrow hrs
  rw [h4] at hul hrow
  obtain ⟨g, cap, cur, rfl, _, hB, ht, _⟩ := own_blk1 hrow (by omega)
  match hs, h4, us, hul with
  | [n0, n1, n2, n3], _, [u0, u1, u2, u3], _ =>
    obtain ⟨l0, o0, _⟩ := ho.2 0 n0 rfl
    obtain ⟨l1, o1, _⟩ := ho.2 1 n1 rfl
    obtain ⟨l2, o2, _⟩ := ho.2 2 n2 rfl
    obtain ⟨l3, o3, _⟩ := ho.2 3 n3 rfl
    match n0, l0, n1, l1, n2, l2, n3, l3 with
    | [a, b, c], _, [d, e, f], _, [p, q], _, [i, j], _ =>
      obtain ⟨g0, c0, rfl, k0⟩ := (hrs 0 u0 _ rfl rfl).cells
      obtain ⟨g1, c1, rfl, k1⟩ := (hrs 1 u1 _ rfl rfl).cells
      obtain ⟨g2, c2, rfl, k2⟩ := (hrs 2 u2 _ rfl rfl).cells
      obtain ⟨g3, c3, rfl, k3⟩ := (hrs 3 u3 _ rfl rfl).cells
      have key : ∀ (i : Nat) (v : Value), i < 4 → [Value.slice (some ⟨g0, 0, none⟩) 3 c0, .slice (some ⟨g1, 0, none⟩) 3 c1, .slice (some ⟨g2, 0, none⟩) 2 c2, .slice (some ⟨g3, 0, none⟩) 2 c3][i]? = some v → W.cell? ⟨g, i, none⟩ = some v := fun i v hi hv => hB.cell (by
        have h2 : (cur.take 4)[i]? = some v := by rw [ht]; exact hv
        rwa [List.getElem?_take_of_lt hi] at h2)
      have o3' : (smallI i && smallI j) = true := o3
      simp only [Bool.and_eq_true] at o3'
      refine ⟨g, fun m => if m = 0 then g0 else if m = 1 then g1 else if m = 2 then g2 else if m = 3 then g3 else if m = 4 then c0 else if m = 5 then c1 else if m = 6 then c2 else c3, cap, rfl, ?_, o0, o3'.1, o3'.2⟩
      exact ⟨key 0 _ (by omega) rfl, key 1 _ (by omega) rfl, key 2 _ (by omega) rfl, key 3 _ (by omega) rfl, k0 0 _ rfl, k0 1 _ rfl, k0 2 _ rfl, k1 0 _ rfl, k1 1 _ rfl, k1 2 _ rfl, k2 0 _ rfl, k2 1 _ rfl, k3 0 _ rfl, k3 1 _ rfl⟩
end Go.Proofs.YtdfbofkdlgfblaaDoor
