/- What a drop takes: none that is more urgent than one that stays. -/
import Derived.Test.YthpdoekeooedfaaPrioDa
namespace Go.Proofs.Ythpdoekeooedfaa
theorem pushS_gone (s : List It) (x : It) (room : Int) (hr : (s.length : Int) ≤ room) : (pushS s x room).2.2 = decide ((s.length : Int) = room) := by
  unfold pushS
  have h := ins_len s x
  split
  · simp; omega
  · simp; omega
theorem pushS_mem (s : List It) (x : It) (room : Int) : ∀ y ∈ (pushS s x room).1, y = x ∨ y ∈ s := by
  intro y hy
  have h : y ∈ insS s x := by
    unfold pushS at hy
    split at hy
    · exact List.dropLast_subset _ hy
    · exact hy
  have h2 := (ins_perm s x).mem_iff.1 h
  simpa using h2
theorem last_most (s : List It) (hs : s.Pairwise lt) (y : It) (hy : y ∈ s) : y.rank ≤ ((s.map pr).getD (s.length - 1) (0, 0)).1 := by
  obtain ⟨i, hi, rfl⟩ := List.getElem_of_mem hy
  have he : (s.map pr).getD (s.length - 1) (0, 0) = pr (s[s.length - 1]'(by omega)) := by
    rw [List.getD_eq_getElem?_getD, List.getElem?_map, List.getElem?_eq_getElem (by omega)]
    rfl
  rw [he]
  show _ ≤ (s[s.length - 1]'(by omega)).rank
  rcases Nat.lt_or_ge i (s.length - 1) with h | h
  · have := List.pairwise_iff_getElem.1 hs i (s.length - 1) hi (by omega) h
    unfold lt at this
    omega
  · have hii : i = s.length - 1 := by omega
    subst hii
    exact Int.le_refl _
theorem pushS_top {h : List It} {T : Int} {s : List It} (r : Rp h T s) (x : It) (room : Int) (p : Int × Int) (pre : List (Int × Int)) (hp : pre ++ [p] <+: (pushS s x room).1.map pr) : p.1 ≤ max x.rank ((s.map pr).getD (s.length - 1) (0, 0)).1 := by
  have hm : p ∈ (pushS s x room).1.map pr := hp.subset (by simp)
  obtain ⟨y, hy, rfl⟩ := List.mem_map.1 hm
  show y.rank ≤ _
  rcases pushS_mem s x room y hy with rfl | h1
  · exact Int.le_max_left _ _
  · exact Int.le_trans (last_most s r.ord y h1) (Int.le_max_right _ _)
end Go.Proofs.Ythpdoekeooedfaa
