/- Who met whom, and who is busy: the law's two tables. The program's Rounds. -/
import Derived.Test.YtgbikakhnmjllaaLadRs
import Derived.Test.YtgbikakhnmjllaaLadRf
namespace Go.Proofs.Ytgbikakhnmjllaa
open Go Go.RowKit
def metC (L : List (Nat × Nat)) : List Value := tab 1024 fun k => .int .i64 ((codL L).count k : Nat)
def busC (l : List (Nat × Nat)) : List Value := tab 32 fun k => .bool (decide (k ∈ bothL l))
theorem met_push (L : List (Nat × Nat)) (p : Nat × Nat) (h : p.1 * 32 + p.2 < 1024) : (metC L).set (p.1 * 32 + p.2) (.int .i64 (((codL L).count (p.1 * 32 + p.2) : Nat) + 1)) = metC (L ++ [p]) := by
  have he : codL (L ++ [p]) = codL L ++ [p.1 * 32 + p.2] := by simp [codL]
  refine tab_set h ?_ fun i _ hi => ?_
  · rw [he, List.count_append]
    simp
  · rw [he, List.count_append]
    simp [Ne.symm hi]
theorem met_at (L : List (Nat × Nat)) (k : Nat) (h : k < 1024) : (metC L)[k]? = some (.int .i64 ((codL L).count k : Nat)) := tab_get h
theorem bus_at (l : List (Nat × Nat)) (k : Nat) (h : k < 32) : (busC l)[k]? = some (.bool (decide (k ∈ bothL l))) := tab_get h
theorem bus_push (l : List (Nat × Nat)) (p : Nat × Nat) (h1 : p.1 < 32) (h2 : p.2 < 32) : ((busC l).set p.1 (.bool true)).set p.2 (.bool true) = busC (l ++ [p]) := by
  have he : bothL (l ++ [p]) = bothL l ++ [p.1, p.2] := by simp [bothL]
  have e1 : (busC l).set p.1 (.bool true) = tab 32 fun k => .bool (decide (k ∈ bothL l ∨ k = p.1)) := by
    refine tab_set h1 (by simp) fun i _ hi => ?_
    simp [hi]
  rw [e1]
  refine tab_set h2 ?_ fun i _ hi => ?_
  · rw [he]; simp
  · rw [he]; simp [hi]
theorem bus_nil : busC [] = List.replicate 32 (.bool false) := by
  unfold busC tab
  rfl
theorem met_nil : metC [] = List.replicate 1024 (.int .i64 0) := by
  refine (List.ext_getElem? fun i => ?_)
  rcases Nat.lt_or_ge i 1024 with h | h
  · rw [met_at _ _ h, List.getElem?_replicate, if_pos h]
    rfl
  · rw [List.getElem?_eq_none (by rw [metC, tab_len]; exact h), List.getElem?_replicate, if_neg (Nat.not_lt.2 h)]
theorem both_free (l : List (Nat × Nat)) (i : Nat) (hi : i < l.length) (hn : (bothL l).Nodup) : l[i].1 ∉ bothL (l.take i) ∧ l[i].2 ∉ bothL (l.take i) := by
  have h1 : bothL l = bothL (l.take i) ++ bothL (l.drop i) := by unfold bothL; rw [← List.flatMap_append, List.take_append_drop]
  have h2 : l.drop i = l[i] :: l.drop (i + 1) := List.drop_eq_getElem_cons hi
  rw [h1, h2, List.nodup_append] at hn
  have h3 := hn.2.2
  exact ⟨fun hc => h3 _ hc _ (List.mem_flatMap.2 ⟨l[i], List.mem_cons_self .., by simp⟩) rfl, fun hc => h3 _ hc _ (List.mem_flatMap.2 ⟨l[i], List.mem_cons_self .., by simp⟩) rfl⟩
theorem take_push (l : List (Nat × Nat)) (i : Nat) (hi : i < l.length) : l.take (i + 1) = l.take i ++ [l[i]] := by
  rw [List.take_add_one, List.getElem?_eq_getElem hi]
  rfl
set_option maxHeartbeats 1600000 in
theorem rounds_any (p : Int) (N : Nat) (w : World) (hN : N ≤ 32) (hp : max 0 (min p (max 0 32)) = (N : Int)) :
    Calls Try.prog 14 #[.int .i64 p] w fun e w' => e = .returned (.func (.func 24) #[] #[.pointer (some ⟨w.heap.size + 1, 0, none⟩), .pointer (some ⟨w.heap.size, 0, none⟩)]) ∧ w' = (w.alloc (.cells #[.int .i64 N] 3)).alloc (.cells #[.int .i64 (evN N)] 3) := by
  have HC := clamp_any p 0 32 w
  rw [hp] at HC
  have hb : (N : Int) ≤ 32 := by omega
  have HMC := hx (show ((evN N : Nat) : Int) = (N : Int) + (N : Int) % 2 by unfold evN; omega)
  clear hp
  go_enter Try.func14, Try.ntmps14
  go_wp2_with fail
  refine HC.mono ?_
  rintro e w1 ⟨rfl, rfl⟩
  go_wp2
  go_ret
  exact ⟨rfl, by rw [HMC.out]⟩
end Go.Proofs.Ytgbikakhnmjllaa
