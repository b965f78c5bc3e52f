/- The timer's Next: the least of its entries. -/
import Derived.Test.YteobkcmfpmolmaaTnE
import Derived.Deep.RegionHeld3
import Derived.Deep.DeepCutAuto
namespace Go.Proofs.Yteobkcmfpmolmaa
open Go Go.RowKit Go.Shelf
/-- The least of the first ones. -/
def minE (m : En) : List En → En
  | [] => m
  | x :: l => minE (if cfE x m < 0 then x else m) l
theorem minE_snoc (m x : En) (l : List En) : minE m (l ++ [x]) = if cfE x (minE m l) < 0 then x else minE m l := by
  induction l generalizing m with
  | nil => rfl
  | cons y l ih => exact ih _
theorem minE_mem (m : En) (l : List En) : minE m l = m ∨ minE m l ∈ l := by
  induction l generalizing m with
  | nil => exact .inl rfl
  | cons y l ih =>
    unfold minE
    split
    · rcases ih y with h | h
      · exact .inr (by rw [h]; simp)
      · exact .inr (by simp [h])
    · rcases ih m with h | h
      · exact .inl h
      · exact .inr (by simp [h])
theorem minE_le (m : En) (l : List En) : (∀ x, x ∈ l → ¬ ltE x (minE m l)) ∧ ¬ ltE m (minE m l) := by
  induction l generalizing m with
  | nil => exact ⟨by simp, by unfold minE ltE; omega⟩
  | cons y l ih =>
    unfold minE
    split
    · rename_i h
      rw [cfE_lt] at h
      obtain ⟨h1, h2⟩ := ih y
      refine ⟨fun x hx => ?_, ?_⟩
      · rcases List.mem_cons.1 hx with rfl | hx
        · exact h2
        · exact h1 x hx
      · unfold ltE at *; omega
    · rename_i h
      rw [cfE_lt] at h
      obtain ⟨h1, h2⟩ := ih m
      refine ⟨fun x hx => ?_, h2⟩
      rcases List.mem_cons.1 hx with rfl | hx
      · unfold ltE at *; omega
      · exact h1 x hx
/-- It is the first in order. -/
theorem min_head {x0 y : En} {h0 s : List En} (hp : (y :: s).Perm (x0 :: h0)) (hs : (y :: s).Pairwise ltE) : minE x0 h0 = y := by
  have hm : minE x0 h0 ∈ y :: s := by
    rw [hp.mem_iff]
    rcases minE_mem x0 h0 with h | h
    · rw [h]; simp
    · simp [h]
  have hy : ¬ ltE y (minE x0 h0) := by
    have : y ∈ x0 :: h0 := hp.mem_iff.1 (by simp)
    rcases List.mem_cons.1 this with rfl | h
    · exact (minE_le _ _).2
    · exact (minE_le _ _).1 y h
  rcases List.mem_cons.1 hm with h | h
  · exact h
  · exact absurd ((List.pairwise_cons.1 hs).1 _ h) hy
theorem grow_kept (w : World) (q : Nat) (os : Array Obj) : Kept [] w (Go.Sort.grow (w.drewN q) os) :=
  ⟨rfl, rfl, rfl, by simp [Go.Sort.grow, World.drewN], fun k hk _ => by
    show (w.heap ++ os)[k]? = _
    rw [Array.getElem?_append_left hk]⟩
theorem order_k (x y : En) (w : World) : Calls Try.prog 40 #[.agg #[.int .u32 x.key, .int .i64 x.due, .int .i64 x.no], .agg #[.int .u32 y.key, .int .i64 y.due, .int .i64 y.no]] w fun e w' => e = .returned (.int .i64 (cfE x y)) ∧ Kept [] w w' :=
  (order_any x y w).mono fun _ _ ⟨h1, q, os, h2⟩ => ⟨h1, by rw [h2]; exact grow_kept w q os⟩
theorem kept_own {bs : List Nat} {w A C : World} (h : Kept [] w A) (k : Kept bs A C) (hb : ∀ x, x ∈ bs → w.heap.size ≤ x) : Kept [] w C :=
  h.trans k (fun _ h => h) (fun x hx => .inr (hb x hx))
theorem infoEn3 : (Try.prog.info? 78).map (·.size) = some 3 := by kernel_rfl
theorem ret_en {P : Program} {w : World} {fn : Func} {p : Tmp} {ty : TypeId} (h : fn.results = #[.cell p ty]) (tmps : Array Value) (g : Nat) (T : TypeId) (x : En) (d : TypeDesc)
    (hp : tmps.getD p undef = .pointer (some ⟨g, 0, none⟩)) (hb : Blk w g (enc3 x) T)
    (hu : P.underlying ty = some d) (hd : (match d with | .struct _ | .array _ _ => true | _ => false) = true) (hi : (P.info? ty).map (·.size) = some 3) :
    (results fn tmps).run P w = .ok (.agg #[.int .u32 x.key, .int .i64 x.due, .int .i64 x.no]) w :=
  ret_blk h tmps g T (enc3 x) d hp hb hu hd hi
theorem getD_in {h : List En} {i : Nat} (hi : i < h.length) : h[i]! = h.getD i en0 := by simp [List.getD, hi]
theorem take_succ_en {h : List En} {i : Nat} (hi : i < h.length) : h.take (i + 1) = h.take i ++ [h.getD i en0] := by
  rw [List.take_add_one, List.getElem?_eq_getElem hi]; simp [List.getD, hi]
end Go.Proofs.Yteobkcmfpmolmaa
