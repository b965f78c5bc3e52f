/- Lists of numbers and of slices of bytes, grown by append. -/
import Derived.Test.YtjgnngnknhkpmaaApl
import Derived.Test.YtjgnngnknhkpmaaApg
namespace Go.Proofs.Ytjgnngnknhkpmaa
open Go Go.RowKit
def nts (l : List Nat) : List Value := l.map fun x : Nat => Value.int .i64 (x : Int)
theorem nts_len (l : List Nat) : (nts l).length = l.length := List.length_map _
theorem nts_push (l : List Nat) (x : Nat) : nts (l ++ [x]) = nts l ++ [.int .i64 (x : Int)] := by simp [nts]
theorem one_int (x : Int) : ∀ u ∈ [Value.int .i64 x], u.oneCell' = true := by
  intro u hu
  rw [List.mem_singleton] at hu
  subst hu
  rfl
theorem one_sl (a : Option Addr) (n c : Nat) : ∀ u ∈ [Value.slice a n c], u.oneCell' = true := by
  intro u hu
  rw [List.mem_singleton] at hu
  subst hu
  rfl
theorem blk_news {w : World} {g : Nat} {xs : List Value} {T : TypeId} (h : Blk w g xs T) : ∀ ad, some (⟨g, 0, none⟩ : Addr) = some ad → ∀ j u, xs[j]? = some u → w.cell? (ad.add j) = some u := by
  intro ad ha j u hu
  simp only [Option.some.injEq] at ha
  subst ha
  rw [Addr.add_mid]
  simp only [Nat.zero_add]
  exact h.cell hu
theorem grown_blk {w w2 : World} {row : Option Nat} {b : Nat} {xs : List Value} {T : TypeId} (hg : w.grownBy w2 row) (h : Blk w b xs T) (hn : some b ≠ row) : Blk w2 b xs T := by
  have hlt := h.lt
  unfold Blk at *
  rw [hg.block b hlt hn]
  exact h
theorem own_kept0 {w w2 : World} {base size : Nat} {e : TypeId} {v : Value} {n : Nat} {xs : List Value} (h : w.ownsRow base e size v n xs) (hk : Kept [] w w2) : w2.ownsRow base e size v n xs := by
  refine ⟨h.1, ?_⟩
  rcases h.2 with hn | ⟨g, cap, cur, rfl, hb, hg, rest⟩
  · exact .inl hn
  · exact .inr ⟨g, cap, cur, rfl, hb, (hk.block g (Array.getElem?_eq_some_iff.1 hg).1 (by simp)).trans hg, rest⟩
theorem own_ne {w : World} {base size b : Nat} {e T : TypeId} {v : Value} {n : Nat} {xs ys : List Value} (h : w.ownsRow base e size v n xs) (hb : Blk w b ys T) (hT : T ≠ e) : some b ≠ v.ownBlock := by
  rcases h.2 with ⟨rfl, rfl⟩ | ⟨g, cap, cur, rfl, _, hg, _⟩
  · simp [Value.ownBlock]
  · intro e1
    simp only [Value.ownBlock, Option.some.injEq] at e1
    subst e1
    unfold Blk at hb
    rw [hg] at hb
    simp only [Option.some.injEq, Obj.cells.injEq] at hb
    exact hT hb.2.1.symm
theorem own_push1 {w : World} {base : Nat} {e : TypeId} {v x : Value} {out : List Value} (h : w.ownsRow base e 1 v (out.length + 1) (out ++ [x])) : w.ownsRow base e 1 v (out ++ [x]).length (out ++ [x]) := by
  rw [List.length_append]
  exact h
theorem own_cells {w : World} {base : Nat} {e : TypeId} {v : Value} {xs : List Value} (h : w.ownsRow base e 1 v xs.length xs) : ∃ a c, v = .slice a xs.length c ∧ xs.length ≤ c ∧ ∀ j u, xs[j]? = some u → ∃ b off, a = some ⟨b, off, none⟩ ∧ w.cell? ⟨b, off + j, none⟩ = some u := by
  have hc : ∀ g c, v = .slice (some ⟨g, 0, none⟩) xs.length c → ∀ j u, xs[j]? = some u → w.cell? ⟨g, 0 + j, none⟩ = some u := by
    intro g c hv j u hu
    subst hv
    have hj := (List.getElem?_eq_some_iff.1 hu).1
    rw [Nat.zero_add, h.cellAt j (by omega)]
    exact hu
  rcases h.2 with ⟨h1, h0⟩ | ⟨g, cap, cur, h1, hb, hg, hnc, hcm, hcs, htake⟩
  · subst h1
    refine ⟨none, 0, by rw [h0], by omega, fun j u hu => ?_⟩
    have hj := (List.getElem?_eq_some_iff.1 hu).1
    omega
  · exact ⟨some ⟨g, 0, none⟩, cap, h1, hnc, fun j u hu => ⟨g, 0, rfl, hc g cap h1 j u hu⟩⟩
/-- The list of numbers l so far. -/
structure Il (base : Nat) (w : World) (v : Value) (l : List Nat) : Prop where
  own : w.ownsRow base 3 1 v l.length (nts l)
theorem Il.nil (base : Nat) (w : World) : Il base w (.slice none 0 0) [] := ⟨World.ownsRow_nil _ _ _ _⟩
theorem Il.kept {base : Nat} {w w2 : World} {v : Value} {l : List Nat} (h : Il base w v l) (hk : Kept [] w w2) : Il base w2 v l := ⟨own_kept0 h.own hk⟩
theorem Il.form {base : Nat} {w : World} {v : Value} {l : List Nat} (h : Il base w v l) : ∃ a c, v = .slice a l.length c ∧ l.length ≤ c ∧ In w a l := by
  have ho := h.own
  rw [← nts_len] at ho
  obtain ⟨a, c, h1, h2, h3⟩ := own_cells ho
  rw [nts_len] at h1 h2
  refine ⟨a, c, h1, h2, fun i hi => ?_⟩
  refine h3 i _ ?_
  rw [nts, List.getElem?_map, getD_some 0 hi]
  rfl
theorem Il.push {base : Nat} {w8 : World} {v2 : Value} {l : List Nat} {x : Nat} (h : w8.ownsRow base 3 1 v2 (l.length + 1) (nts l ++ [.int .i64 (x : Int)])) : Il base w8 v2 (l ++ [x]) := ⟨by
  rw [nts_push, List.length_append]
  exact h⟩
/-- What a row of bytes is: of before, or of a block of bytes. -/
def Br (lo : Nat) (w : World) (a : Option Addr) (l : List Nat) : Prop := ∀ i, i < l.length → ∃ b off, a = some ⟨b, off, none⟩ ∧ w.cell? ⟨b, off + i, none⟩ = some (bn (l.getD i 0)) ∧ (b < lo ∨ ∃ ys, Blk w b ys 5)
theorem Br.toBn {lo : Nat} {w : World} {a : Option Addr} {l : List Nat} (h : Br lo w a l) : Bn w a l := fun i hi => by
  obtain ⟨b, off, h1, h2, _⟩ := h i hi
  exact ⟨b, off, h1, h2⟩
theorem Br.kept {lo : Nat} {w w2 : World} {a : Option Addr} {l : List Nat} (h : Br lo w a l) (hk : Kept [] w w2) : Br lo w2 a l := fun i hi => by
  obtain ⟨b, off, h1, h2, h3⟩ := h i hi
  refine ⟨b, off, h1, kept_cell hk h2, ?_⟩
  rcases h3 with h3 | ⟨ys, h3⟩
  · exact .inl h3
  · exact .inr ⟨ys, hk.blk h3 (by simp)⟩
theorem Br.ofBn {lo : Nat} {w0 w : World} {a : Option Addr} {l : List Nat} (h : Bn w0 a l) (hs : w0.heap.size ≤ lo) (hk : Kept [] w0 w) : Br lo w a l := fun i hi => by
  obtain ⟨b, off, h1, h2⟩ := h i hi
  have h3 := block_lt_of_cell h2
  exact ⟨b, off, h1, kept_cell hk h2, .inl (Nat.lt_of_lt_of_le h3 hs)⟩
theorem Br.ofBlk {lo : Nat} {w : World} {g : Nat} {l : List Nat} (h : Blk w g (l.map bn) 5) : Br lo w (some ⟨g, 0, none⟩) l := fun i hi => by
  refine ⟨g, 0, rfl, ?_, .inr ⟨_, h⟩⟩
  rw [Nat.zero_add, h.cell?_at, List.getElem?_map, getD_some 0 hi]
  rfl
theorem Br.grown {lo base : Nat} {w w8 : World} {a : Option Addr} {l : List Nat} {v : Value} {sl : List Value} (h : Br lo w a l) (ho : w.ownsRow base 39 1 v sl.length sl) (hb : lo ≤ base) (hg : w.grownBy w8 v.ownBlock) : Br lo w8 a l := fun i hi => by
  obtain ⟨b, off, h1, h2, h3⟩ := h i hi
  have h4 := block_lt_of_cell h2
  have hne : some b ≠ v.ownBlock := by
    rcases h3 with h3 | ⟨ys, h3⟩
    · intro e
      have h5 := (ho.lt b e.symm).1
      omega
    · exact own_ne ho h3 (by decide)
  refine ⟨b, off, h1, ?_, ?_⟩
  · rw [World.cell?_of_block (w := w) (hg.block b h4 hne)]
    exact h2
  · rcases h3 with h3 | ⟨ys, h3⟩
    · exact .inl h3
    · exact .inr ⟨ys, grown_blk hg h3 hne⟩
/-- The rows of bytes so far. -/
structure Cl (lo base : Nat) (w : World) (v : Value) (ls : List (List Nat)) : Prop where
  rows : ∃ sl : List Value, sl.length = ls.length ∧ w.ownsRow base 39 1 v sl.length sl ∧ ∀ j, j < ls.length → ∃ ai ci, sl[j]? = some (.slice ai (rw ls j).length ci) ∧ Br lo w ai (rw ls j)
theorem Cl.nil (lo base : Nat) (w : World) : Cl lo base w (.slice none 0 0) [] := ⟨[], rfl, World.ownsRow_nil _ _ _ _, fun j hj => absurd hj (by simp)⟩
theorem Cl.kept {lo base : Nat} {w w2 : World} {v : Value} {ls : List (List Nat)} (h : Cl lo base w v ls) (hk : Kept [] w w2) : Cl lo base w2 v ls := by
  obtain ⟨sl, h1, h2, h3⟩ := h.rows
  refine ⟨sl, h1, own_kept0 h2 hk, fun j hj => ?_⟩
  obtain ⟨ai, ci, h4, h5⟩ := h3 j hj
  exact ⟨ai, ci, h4, h5.kept hk⟩
theorem Cl.form {lo base : Nat} {w : World} {v : Value} {ls : List (List Nat)} (h : Cl lo base w v ls) : ∃ a c, v = .slice a ls.length c ∧ ls.length ≤ c ∧ Cs w a ls := by
  obtain ⟨sl, h1, h2, h3⟩ := h.rows
  obtain ⟨a, c, h4, h5, h6⟩ := own_cells h2
  rw [h1] at h4 h5
  refine ⟨a, c, h4, h5, fun i hi => ?_⟩
  obtain ⟨ai, ci, h7, h8⟩ := h3 i hi
  obtain ⟨b, off, h9, h10⟩ := h6 i _ h7
  exact ⟨b, off, ai, ci, h9, h10, h8.toBn⟩
theorem rw_push {ls : List (List Nat)} {l : List Nat} {j : Nat} (hj : j < (ls ++ [l]).length) : (j < ls.length ∧ rw (ls ++ [l]) j = rw ls j) ∨ (j = ls.length ∧ rw (ls ++ [l]) j = l) := by
  rw [List.length_append, List.length_singleton] at hj
  by_cases h : j < ls.length
  · exact .inl ⟨h, by rw [rw, rw, List.getD_eq_getElem?_getD, List.getD_eq_getElem?_getD, List.getElem?_append_left h]⟩
  · obtain rfl : j = ls.length := by omega
    exact .inr ⟨rfl, by rw [rw, List.getD_eq_getElem?_getD, List.getElem?_append_right (Nat.le_refl _), Nat.sub_self]; rfl⟩
/-- Append of a row: the operation's facts, and the list behind it. -/
theorem Cl.push {lo base : Nat} {w w8 : World} {v v2 : Value} {ls : List (List Nat)} {sl : List Value} {l : List Nat} {a : Option Addr} {n c : Nat} (hlen : sl.length = ls.length) (hown : w.ownsRow base 39 1 v sl.length sl) (hrows : ∀ j, j < ls.length → ∃ ai ci, sl[j]? = some (.slice ai (rw ls j).length ci) ∧ Br lo w ai (rw ls j))
    (hb : lo ≤ base) (hr : Br lo w a l) (hn : n = l.length) (ho : w8.ownsRow base 39 1 v2 (sl.length + 1) (sl ++ [.slice a n c])) (hg : w.grownBy w8 v.ownBlock) : Cl lo base w8 v2 (ls ++ [l]) := by
  refine ⟨sl ++ [.slice a n c], by simp [hlen], own_push1 ho, fun j hj => ?_⟩
  rcases rw_push hj with ⟨h1, h2⟩ | ⟨h1, h2⟩
  · obtain ⟨ai, ci, h3, h4⟩ := hrows j h1
    rw [h2]
    exact ⟨ai, ci, by rw [List.getElem?_append_left (by omega)]; exact h3, h4.grown hown hb hg⟩
  · rw [h2]
    refine ⟨a, c, ?_, hr.grown hown hb hg⟩
    rw [List.getElem?_append_right (by omega), h1, ← hlen, Nat.sub_self, hn]
    rfl
end Go.Proofs.Ytjgnngnknhkpmaa
