/- The program's matrices: Pick. -/
import Derived.Test.YtjgnngnknhkpmaaMatC
import Derived.Laws.IdiomCopy
namespace Go.Proofs.Ytjgnngnknhkpmaa
open Go Go.RowKit
/-- Numbers, where they lie. -/
def In (w : World) (a : Option Addr) (l : List Nat) : Prop := ∀ i, i < l.length → ∃ b off, a = some ⟨b, off, none⟩ ∧ w.cell? ⟨b, off + i, none⟩ = some (.int .i64 ((l.getD i 0 : Nat) : Int))
theorem In.kept {w w2 : World} {a : Option Addr} {xs : List Nat} (h : In w a xs) (hk : Kept [] w w2) : In w2 a xs := fun i hi => by
  obtain ⟨b, off, h1, h2⟩ := h i hi
  exact ⟨b, off, h1, kept_cell hk h2⟩
def pickM (m : List (List Nat)) (l : List Nat) : List (List Nat) := l.map (rw m)
/-- The first i rows are picked. -/
def pickS (c : Nat) (m : List (List Nat)) (l : List Nat) (i : Nat) : List (List Nat) := tab l.length fun k => if k < i then rw m (l.getD k 0) else List.replicate c 0
theorem pickS_mt {r c : Nat} {m : List (List Nat)} (hm : Mt r c m) {l : List Nat} (hl : ∀ x ∈ l, x < r) (i : Nat) : Mt l.length c (pickS c m l i) := by
  have hc : ∀ k, k < l.length → l.getD k 0 < r := fun k hk => by
    rw [List.getD_eq_getElem?_getD, List.getElem?_eq_getElem hk]; exact hl _ (List.getElem_mem hk)
  refine ⟨tab_len _ _, fun x hx => ?_, fun x hx => ?_⟩
  · unfold pickS tab at hx
    simp only [List.mem_map, List.mem_range] at hx
    obtain ⟨k, hk, rfl⟩ := hx
    split
    · exact hm.len (hc k hk)
    · simp
  · unfold pickS tab at hx
    simp only [List.mem_map, List.mem_range] at hx
    obtain ⟨k, hk, rfl⟩ := hx
    split
    · exact hm.rowOct (hc k hk)
    · intro y hy
      rw [List.mem_replicate] at hy
      rw [hy.2]
      omega
theorem flat_zero (n c : Nat) : (List.replicate n (List.replicate c 0)).flatten = List.replicate (n * c) (0 : Nat) := by
  simp [List.flatten_replicate_replicate]
theorem pickS_0 (c : Nat) (m : List (List Nat)) (l : List Nat) : (List.replicate (l.length * c) 0).map bn = cellsM (pickS c m l 0) [] := by
  have e : pickS c m l 0 = List.replicate l.length (List.replicate c 0) := by
    refine (tab_eq (by simp) fun i hi => ?_).symm
    rw [List.getElem?_replicate, if_pos hi]
    simp
  rw [e, cellsM, flat_zero, List.append_nil]
theorem pickS_set (c : Nat) (m : List (List Nat)) (l : List Nat) (i : Nat) (hi : i < l.length) : (pickS c m l i).set i (rw m (l.getD i 0)) = pickS c m l (i + 1) :=
  tab_set hi (by simp) fun k _ hk => by
    by_cases h : k < i
    · rw [if_pos h, if_pos (by omega)]
    · rw [if_neg h, if_neg (by omega)]
theorem pickS_all (c : Nat) (m : List (List Nat)) (l : List Nat) : pickS c m l l.length = pickM m l := by
  refine (tab_eq (by simp [pickM]) fun i hi => ?_).symm
  rw [pickM, List.getElem?_map, List.getElem?_eq_getElem hi, if_pos hi, List.getD_eq_getElem?_getD, List.getElem?_eq_getElem hi]
  rfl
theorem infoB1 : (Try.prog.info? 5).map (·.size) = some 1 := by kernel_rfl
theorem copy_run {w : World} {b o c cap1 b2 o2 cap2 : Nat} {s : List Nat} {ys : List Value} (hb : Blk w b ys 5) (hs : s.length = c) (hy : o + c ≤ ys.length) (h2 : ∀ i, i < c → w.cell? ⟨b2, o2 + i, none⟩ = some (bn (s.getD i 0))) :
    (Builtin.copy_ #[39, 39] 3 #[.slice (some ⟨b, o, none⟩) c cap1, .slice (some ⟨b2, o2, none⟩) c cap2]).run Try.prog w = .ok (.int .i64 (c : Int)) (w.setCells b o (s.map bn)) := by
  have h := run_copy_cells (P := Try.prog) w 39 39 3 5 b o c cap1 ⟨b2, o2, none⟩ c cap2 (s.map bn) Try.underlying39 infoB1 (by rw [List.length_map, hs]; exact (Nat.min_self c).symm)
    (fun j v hv => by
      rw [List.getElem?_map] at hv
      have hj : j < c := by
        rcases Nat.lt_or_ge j c with g | g
        · exact g
        · rw [List.getElem?_eq_none (by omega)] at hv; cases hv
      rw [Addr.add_mid, h2 j hj]
      rw [List.getElem?_eq_getElem (by omega)] at hv
      rw [List.getD_eq_getElem?_getD, List.getElem?_eq_getElem (by omega)]
      exact hv)
    (fun j hj => by
      rw [List.length_map, hs] at hj
      rw [hb.cell?_at, List.getElem?_eq_getElem (by omega)]
      rfl)
    (fun j _ => hb.free _)
    (fun v hv => by
      simp only [List.mem_map] at hv
      obtain ⟨x, _, rfl⟩ := hv
      rfl)
  rw [List.length_map, hs] at h
  exact h
/-- Where a row of a matrix lies. -/
theorem row_cells {w : World} {b r c : Nat} {m : List (List Nat)} {rest : List Value} (hb : Blk w b (cellsM m rest) 5) (hm : Mt r c m) {i : Nat} (hi : i < r) : ∀ j, j < c → w.cell? ⟨b, i * c + j, none⟩ = some (bn ((rw m i).getD j 0)) := fun j hj => by
  rw [hb.cell?_at]
  exact cellsM_at hm rest hi hj
end Go.Proofs.Ytjgnngnknhkpmaa
