/- Lists of ways, and lists of lists of acts. -/
import Derived.Test.YthkjllphefnphaaPathRo
import Derived.Test.YthkjllphefnphaaPathPl
import Derived.Test.YthkjllphefnphaaPathAw
import Derived.Great.BuildSlice
namespace Go.Proofs.Ythkjllphefnphaa
open Go Go.RowKit Go.ChangeShapes Go.WideShapes Go.ChangeAt Go.Deep
structure Lsts (w : World) (a : Option Addr) (len cap : Nat) : Prop where
  hle : len ≤ cap
  htop : cap ≤ maxLen
  hcell : ∀ i, i < len → ∃ b off a' n' c', a = some ⟨b, off, none⟩ ∧ w.cell? ⟨b, off + i, none⟩ = some (.slice a' n' c') ∧ Acts w a' n' c'
theorem Lsts.kept {w w2 : World} {a : Option Addr} {len cap : Nat} (h : Lsts w a len cap) (hk : Kept [] w w2) : Lsts w2 a len cap :=
  ⟨h.hle, h.htop, fun i hi => by
    obtain ⟨b, off, a', n', c', h1, h2, h3⟩ := h.hcell i hi
    exact ⟨b, off, a', n', c', h1, kept_cell' hk h2, h3.kept hk⟩⟩
theorem lsts_of {H : Type} {enc : TypeId × Value → H} {w : World} {base : Nat} {held : Bool} {spare : Nat → Bool} {fuel : Nat} {v : Value} {x : DataW H × List MemPlace} (h : DataW.trod enc Try.prog w base spare held fuel 45 [v] = some x) : ∃ a n c, v = .slice a n c ∧ Lsts w a n c := by
  rcases open_slice1 Try.underlying45 (by kernel_rfl) h with ⟨h1, _⟩ | ⟨a, len, cap, m, n, V, D, Pl, h1, hb, hl, hm, hmm, _, hall⟩
  · exact ⟨none, 0, 0, by simpa using h1, Nat.le_refl _, Nat.zero_le _, fun i hi => by omega⟩
  · have hle : len ≤ m := by rw [hmm]; split <;> omega
    refine ⟨some a, len, cap, by simpa using h1, hl, hm, fun i hi => ?_⟩
    have hs : a.spot = none := by
      have h5 := World.cell?_spot (hall 0 (by omega)).1
      simpa [Addr.add] using h5
    obtain ⟨b, off, spot⟩ := a
    simp at hs
    subst hs
    obtain ⟨h2, h3⟩ := hall i (by omega)
    obtain ⟨a', n', c', hv, hA⟩ := acts_of h3
    refine ⟨b, off, a', n', c', rfl, ?_, hA⟩
    rw [Addr.add_mid] at h2
    rw [h2, hv]
def ptrs (bs : List Nat) : List Value := bs.map (fun b : Nat => Value.pointer (some ⟨b, 0, none⟩))
def rws (ps : List Pa) : List Value := ps.flatMap rpc
theorem rws_len (ps : List Pa) : (rws ps).length = ps.length * 78 := by
  induction ps with
  | nil => rfl
  | cons p ps ih => rw [rws, List.flatMap_cons, List.length_append, ← rws, ih, rpc_len, List.length_cons]; omega
theorem rws_part (ps : List Pa) (i : Nat) (hi : i < ps.length) : Part (rws ps) (i * 78) (rpc (ps.getD i pa0)) := by
  induction ps generalizing i with
  | nil => simp at hi
  | cons p ps ih =>
    have e : rws (p :: ps) = rpc p ++ rws ps := rfl
    cases i with
    | zero =>
      refine ⟨by rw [e, List.length_append]; simp, fun k hk => ?_⟩
      rw [e]
      simp only [List.getD_cons_zero] at hk ⊢
      rw [Nat.zero_mul, Nat.zero_add, List.getElem?_append_left hk]
    | succ i =>
      simp only [List.length_cons] at hi
      obtain ⟨h1, h2⟩ := ih i (by omega)
      simp only [List.getD_cons_succ]
      refine ⟨by rw [e, List.length_append]; simp only [rpc_len] at h1 ⊢; omega, fun k hk => ?_⟩
      rw [e, List.getElem?_append_right (by rw [rpc_len]; omega), rpc_len, show (i + 1) * 78 + k - 78 = i * 78 + k by omega]
      exact h2 k hk
theorem ptrs_form {w : World} {base : Nat} {e : TypeId} {v : Value} {n : Nat} {bs : List Nat} (h : w.ownsRow base e 1 v n (ptrs bs)) : ∃ a cap, v = .slice a n cap ∧ Ptrs w a n bs := by
  rcases h.2 with ⟨rfl, rfl⟩ | ⟨g, cap, cur, rfl, hb, hg, hnc, hcm, hcs, htake⟩
  · exact ⟨none, 0, rfl, fun i hi => by omega⟩
  · refine ⟨_, cap, rfl, fun i hi => ⟨g, rfl, ?_⟩⟩
    rw [h.cellAt i (by omega)]
    have hl := h.1
    simp only [ptrs, List.length_map, Nat.mul_one] at hl
    simp [ptrs, List.getD, show i < bs.length by omega]
theorem rws_form {w : World} {base : Nat} {v : Value} {n : Nat} {ps : List Pa} (h : w.ownsRow base 37 78 v n (rws ps)) : ∃ a cap, v = .slice a n cap ∧ Rws w a n ps := by
  have hl := h.1
  rw [rws_len] at hl
  rcases h.2 with ⟨rfl, rfl⟩ | ⟨g, cap, cur, rfl, hb, hg, hnc, hcm, hcs, htake⟩
  · exact ⟨none, 0, rfl, fun i hi => by omega⟩
  · refine ⟨_, cap, rfl, fun i hi => ⟨g, cur.toList, rfl, hg, ?_⟩⟩
    obtain ⟨h1, h2⟩ := rws_part ps i (by omega)
    rw [← htake] at h1 h2
    refine ⟨?_, fun k hk => ?_⟩
    · rw [List.length_take] at h1
      omega
    · rw [← h2 k hk, List.getElem?_take, if_pos (by rw [rpc_len] at hk; omega)]
theorem own_ne {w : World} {base size b : Nat} {e T : TypeId} {v : Value} {n : Nat} {xs ys : List Value} (h : w.ownsRow base e size v n xs) (hb : Blk w b ys T) (hT : T ≠ e) : some b ≠ v.ownBlock := by
  rcases h.2 with ⟨rfl, rfl⟩ | ⟨g, cap, cur, rfl, _, hg, _⟩
  · simp [Value.ownBlock]
  · intro e1
    simp only [Value.ownBlock, Option.some.injEq] at e1
    subst e1
    unfold Blk at hb
    rw [hg] at hb
    simp only [Option.some.injEq, Obj.cells.injEq] at hb
    exact hT hb.2.1.symm
theorem own_ne2 {w : World} {base size base2 size2 : Nat} {e T : TypeId} {v u : Value} {n k : Nat} {xs ys : List Value} (h : w.ownsRow base e size v n xs) (hb : w.ownsRow base2 T size2 u k ys) (hT : T ≠ e) : u.ownBlock = none ∨ u.ownBlock ≠ v.ownBlock := by
  rcases hb.2 with ⟨rfl, rfl⟩ | ⟨g, cap, cur, rfl, _, hg, _⟩
  · exact .inl rfl
  · refine .inr ?_
    have hB : Blk w g cur.toList T := hg
    exact own_ne h hB hT
theorem infoR : ∃ i, Try.prog.info? 37 = some i ∧ i.zero = some (.agg (rpc pa0).toArray) ∧ i.size = 78 := by
  have h : (Try.prog.info? 37).map (fun i => (i.zero, i.size)) = some (some (.agg (rpc pa0).toArray), 78) := by kernel_rfl
  cases hi : Try.prog.info? 37 with
  | none => simp [hi] at h
  | some i => rw [hi] at h; simp at h; exact ⟨i, rfl, h.1, h.2⟩
theorem foldl_set : ∀ (vs : List Value) (cs : Array Value) (o : Nat), o + vs.length = cs.size →
    ((vs.zipIdx o).foldl (fun cs (x : Value × Nat) => cs.setIfInBounds x.2 x.1) cs).toList = cs.toList.take o ++ vs
  | [], cs, o, h => by
    simp only [List.zipIdx_nil, List.foldl_nil, List.append_nil]
    rw [List.take_of_length_le (by simp at h ⊢; omega)]
  | v :: vs, cs, o, h => by
    simp only [List.length_cons] at h
    rw [List.zipIdx_cons, List.foldl_cons, foldl_set vs _ (o + 1) (by simp; omega)]
    simp only [Array.toList_setIfInBounds]
    rw [List.take_add_one, List.take_set_of_le (by omega), List.getElem?_set_self (by simp; omega)]
    simp
theorem fill_one (n : Nat) (vs : List Value) (B : Array Value) (hv : vs.length = n) (hB : B.size = n) : Instr.fill (fun i => some (i * n, n)) B [(0, .agg vs.toArray)] = some vs.toArray := by
  unfold Instr.fill
  simp only [Nat.zero_mul, Value.cells, Nat.zero_add]
  rw [if_neg (by simp [hv, hB])]
  unfold Instr.fill
  congr 1
  apply Array.toList_inj.1
  have h := foldl_set vs B 0 (by omega)
  simp only [List.take_zero, List.nil_append] at h
  refine Eq.trans ?_ h
  simp
theorem wpList_build1 {P : Program} {ops : Array Oper} {rest : List Oper} {o : Oper} {a : Act} {w : World} {Q : Exit → Act → World → Prop} (hg : o.guard = none) (t e : TypeId) (x : Operand) (ho : o.op = .buildSlice t 1 #[(0, x)])
    (n : Nat) (vs : List Value) (hx : a.eval x = .agg vs.toArray) (hv : vs.length = n) (h0 : 0 < n) (hn : n ≤ 16777216)
    (hu : P.underlying t = some (.slice e)) (ie : TypeInfo) (z : Value) (hie : P.info? e = some ie) (hz : ie.zero = some z) (hs : ie.size = n)
    (h : wpList P ops Q rest (a.put o.dst (.slice (some ⟨w.heap.size, 0, none⟩) 1 1)) (w.alloc (.cells vs.toArray e))) : wpList P ops Q (o :: rest) a w := by
  subst hs
  refine wpList_buildSlice hg t e 1 _ ho vs.toArray ie z hu hie hz (by omega) (by omega) ?_ h
  have e1 : (#[((0 : Nat), x)].map fun (i, x) => (i, a.eval x)).toList = [(0, .agg vs.toArray)] := by simp [hx]
  rw [e1]
  exact fill_one _ vs _ hv (by simp)
end Go.Proofs.Ythkjllphefnphaa
