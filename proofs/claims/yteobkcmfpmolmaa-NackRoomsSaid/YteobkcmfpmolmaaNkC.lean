/- nack: what a tick does with each key that has come. -/
import Derived.Test.YteobkcmfpmolmaaNkB
namespace Go.Proofs.Yteobkcmfpmolmaa
open Go Go.RowKit Go.Shelf
def tryN (f : Int → Int) (k : Int) : Int := min (f k + 1) 5
def gapN (t n : Int) : Int := max (heldN t) (min (heldN t * 2 ^ n.toNat) 100)
/-- Keys, tries, the last number. -/
abbrev St : Type := List En × (Int → Int) × Int
def stepN (t now : Int) (x : St) (k : Int) : St := (x.1 ++ [⟨k, now + gapN t (tryN x.2.1 k), x.2.2 + 1⟩], fun j => if j = k then tryN x.2.1 k else x.2.1 j, x.2.2 + 1)
theorem gapN_in (t n : Int) : 1 ≤ gapN t n ∧ gapN t n ≤ 4096 := by
  have := heldN_in t
  unfold gapN; omega
theorem tryN_in {f : Int → Int} (hf : ∀ j, 0 ≤ f j ∧ f j ≤ 5) (k : Int) : 1 ≤ tryN f k ∧ tryN f k ≤ 5 := by
  have := hf k
  unfold tryN; omega
def manyN (t now : Int) (l : List Int) (x : St) : St := l.foldl (stepN t now) x
theorem manyN_snoc (t now : Int) (l : List Int) (k : Int) (x : St) : manyN t now (l ++ [k]) x = stepN t now (manyN t now l x) k := by simp [manyN]
theorem manyN_no (t now : Int) (l : List Int) : ∀ x : St, (manyN t now l x).2.2 = x.2.2 + l.length := by
  induction l with
  | nil => intro x; simp [manyN]
  | cons k l ih => intro x; show (manyN t now l (stepN t now x k)).2.2 = _; rw [ih]; simp [stepN]; omega
theorem manyN_len (t now : Int) (l : List Int) : ∀ x : St, (manyN t now l x).1.length = x.1.length + l.length := by
  induction l with
  | nil => intro x; simp [manyN]
  | cons k l ih => intro x; show (manyN t now l (stepN t now x k)).1.length = _; rw [ih]; simp [stepN]; omega
theorem stepN_tries (t now : Int) {x : St} (hx : ∀ j, 0 ≤ x.2.1 j ∧ x.2.1 j ≤ 5) (k : Int) : ∀ j, 0 ≤ (stepN t now x k).2.1 j ∧ (stepN t now x k).2.1 j ≤ 5 := fun j => by
  simp only [stepN]
  have := tryN_in hx k
  have := hx j
  split <;> omega
theorem manyN_tries (t now : Int) (l : List Int) : ∀ x : St, (∀ j, 0 ≤ x.2.1 j ∧ x.2.1 j ≤ 5) → ∀ j, 0 ≤ (manyN t now l x).2.1 j ∧ (manyN t now l x).2.1 j ≤ 5 := by
  induction l with
  | nil => intro x hx; exact hx
  | cons k l ih => intro x hx; exact ih _ (stepN_tries t now hx k)
theorem manyN_key (t now : Int) (l : List Int) : ∀ x : St, (manyN t now l x).1.map (·.key) = x.1.map (·.key) ++ l := by
  induction l with
  | nil => intro x; simp [manyN]
  | cons k l ih => intro x; show (manyN t now l (stepN t now x k)).1.map (·.key) = _; rw [ih]; simp [stepN]
theorem keyAt_nil {k : Int} {h : List En} (hk : k ∉ h.map (·.key)) : keyAt k h = none := by
  cases e : keyAt k h with
  | none => rfl
  | some i =>
    obtain ⟨h1, h2⟩ := keyAt_some e
    exfalso
    apply hk
    rw [← h2]
    exact List.mem_map_of_mem (by rw [← List.getElem_eq_getD (h := h1)]; exact List.getElem_mem h1)
/-- A key that has come is not waited for until it is started again. -/
theorem come_none {s : List En} (hs : s.Pairwise (fun x y => x.key ≠ y.key)) (t now : Int) (d i : Nat) (hi : i < d) (hd : d ≤ s.length) (f : Int → Int) (no : Int) :
    keyAt (((s.take d).map (·.key)).getD i 0) (manyN t now (((s.take d).map (·.key)).take i) (s.drop d, f, no)).1 = none := by
  apply keyAt_nil
  rw [manyN_key]
  have hn : (s.map (·.key)).Nodup := by
    rw [List.Nodup, List.pairwise_map]; exact hs
  have e : s.map (·.key) = (s.take d).map (·.key) ++ (s.drop d).map (·.key) := by rw [← List.map_append, List.take_append_drop]
  rw [e] at hn
  generalize (s.drop d).map (·.key) = b at *
  have hl : ((s.take d).map (·.key)).length = d := by simp; omega
  generalize (s.take d).map (·.key) = l at *
  have hil : i < l.length := by omega
  rw [← List.getElem_eq_getD (h := hil)]
  rw [List.nodup_append] at hn
  intro hm
  rcases List.mem_append.1 hm with hm | hm
  · exact hn.2.2 _ (List.getElem_mem hil) _ hm rfl
  · have h2 : (l.take (i + 1)).Nodup := hn.1.sublist (List.take_sublist _ _)
    rw [List.take_add_one, List.getElem?_eq_getElem hil, Option.toList_some, List.nodup_append] at h2
    exact h2.2.2 _ hm _ (by simp) rfl
end Go.Proofs.Yteobkcmfpmolmaa
