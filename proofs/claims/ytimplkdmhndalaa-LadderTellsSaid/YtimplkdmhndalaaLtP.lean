/- The plain law of the ladder: players, their order, what a game changes. -/
import Derived.Test.YtimplkdmhndalaaMem
import Derived.Laws.Strings
namespace Go.Proofs.Ytimplkdmhndalaa
open Go
structure Hx (p : Prop) : Prop where
  out : p
theorem hx {p : Prop} (h : p) : Hx p := ⟨h⟩
abbrev txt (l : List UInt8) : Value := .string ⟨l.toArray⟩
structure Ply where
  nm : List UInt8
  ma : Int
  wo : Int
  dr : Int
  lo : Int
  deriving DecidableEq, Inhabited
def pl0 : Ply := ⟨[], 0, 0, 0, 0⟩
abbrev bl (x y : List UInt8) : Bool := Op.bytesLess x y
theorem bl_cons (a b : UInt8) (x y : List UInt8) : bl (a :: x) (b :: y) = (decide (a < b) || (a == b && bl x y)) := rfl
theorem bl_irr : ∀ x : List UInt8, bl x x = false
  | [] => rfl
  | a :: x => by
    rw [bl_cons, bl_irr x]
    simp
theorem bl_tri : ∀ {x y : List UInt8}, bl x y = false → bl y x = false → x = y
  | [], [], _, _ => rfl
  | [], _ :: _, h, _ => by simp [bl, Op.bytesLess] at h
  | _ :: _, [], _, h => by simp [bl, Op.bytesLess] at h
  | a :: x, b :: y, h1, h2 => by
    rw [bl_cons] at h1 h2
    simp only [Bool.or_eq_false_iff, decide_eq_false_iff_not, Bool.and_eq_false_iff, beq_eq_false_iff_ne, ne_eq, UInt8.not_lt] at h1 h2
    have hab : a = b := UInt8.le_antisymm h2.1 h1.1
    subst hab
    have h3 : bl x y = false := by rcases h1.2 with h | h; exact absurd rfl h; exact h
    have h4 : bl y x = false := by rcases h2.2 with h | h; exact absurd rfl h; exact h
    rw [bl_tri h3 h4]
theorem bl_trans : ∀ {x y z : List UInt8}, bl x y = true → bl y z = true → bl x z = true
  | _, [], _, h, _ => by simp [bl, Op.bytesLess] at h
  | _, _ :: _, [], _, h => by simp [bl, Op.bytesLess] at h
  | [], _ :: _, _ :: _, _, _ => rfl
  | a :: x, b :: y, c :: z, h1, h2 => by
    rw [bl_cons] at h1 h2 ⊢
    simp only [Bool.or_eq_true, decide_eq_true_eq, Bool.and_eq_true, beq_iff_eq] at h1 h2 ⊢
    rcases h1 with h1 | ⟨rfl, h1⟩
    · rcases h2 with h2 | ⟨rfl, h2⟩
      · exact .inl (UInt8.lt_trans h1 h2)
      · exact .inl h1
    · rcases h2 with h2 | ⟨rfl, h2⟩
      · exact .inl h2
      · exact .inr ⟨rfl, bl_trans h1 h2⟩
theorem bl_asymm {x y : List UInt8} (h : bl x y = true) : bl y x = false := by
  cases hq : bl y x with
  | false => rfl
  | true => have := bl_trans h hq; rw [bl_irr] at this; cases this
def cmpI (x y : Int) : Int := if x < y then -1 else if y < x then 1 else 0
def cmpB (x y : List UInt8) : Int := if bl x y = true then -1 else if (bl x y || x == y) = true then 0 else 1
def cfP (x y : Ply) : Int := if cmpI y.ma x.ma != 0 then cmpI y.ma x.ma else if cmpI y.wo x.wo != 0 then cmpI y.wo x.wo else cmpB x.nm y.nm
/-- Does one come ahead of another one? -/
def ahP (x y : Ply) : Bool := if x.ma != y.ma then decide (y.ma < x.ma) else if x.wo != y.wo then decide (y.wo < x.wo) else bl x.nm y.nm
def ltP (x y : Ply) : Prop := y.ma < x.ma ∨ (x.ma = y.ma ∧ (y.wo < x.wo ∨ (x.wo = y.wo ∧ bl x.nm y.nm = true)))
theorem ahP_lt (x y : Ply) : ahP x y = true ↔ ltP x y := by
  unfold ahP ltP
  by_cases h1 : x.ma = y.ma
  · rw [if_neg (by simp [h1])]
    by_cases h2 : x.wo = y.wo
    · rw [if_neg (by simp [h2])]
      simp [h1, h2]
    · rw [if_pos (by simpa using h2), decide_eq_true_iff]
      constructor
      · intro h; exact .inr ⟨h1, .inl h⟩
      · rintro (h | ⟨_, h | ⟨h, _⟩⟩)
        · omega
        · exact h
        · exact absurd h h2
  · rw [if_pos (by simpa using h1), decide_eq_true_iff]
    constructor
    · intro h; exact .inl h
    · rintro (h | ⟨h, _⟩)
      · exact h
      · exact absurd h h1
theorem cfP_lt (x y : Ply) : cfP x y < 0 ↔ ltP x y := by
  unfold cfP cmpI cmpB ltP
  by_cases h1 : y.ma < x.ma
  · simp [h1]
  · by_cases h2 : x.ma < y.ma
    · simp [h1, h2]; omega
    · have e : x.ma = y.ma := by omega
      by_cases h3 : y.wo < x.wo
      · simp [e, h3]
      · by_cases h4 : x.wo < y.wo
        · simp [e, h3, h4]; omega
        · have e2 : x.wo = y.wo := by omega
          by_cases h5 : bl x.nm y.nm = true
          · simp [e, e2, h5]
          · simp only [e, e2, h5]
            by_cases h6 : x.nm = y.nm
            · simp [h6]
            · simp [h6]
theorem ltP_irr (x : Ply) : ¬ ltP x x := by unfold ltP; rw [bl_irr]; simp
theorem ltP_trans {x y z : Ply} (h1 : ltP x y) (h2 : ltP y z) : ltP x z := by
  unfold ltP at *
  rcases h1 with h1 | ⟨e1, h1 | ⟨e2, h1⟩⟩
  · rcases h2 with h2 | ⟨e3, h2 | ⟨e4, h2⟩⟩
    · exact .inl (by omega)
    · exact .inl (by omega)
    · exact .inl (by omega)
  · rcases h2 with h2 | ⟨e3, h2 | ⟨e4, h2⟩⟩
    · exact .inl (by omega)
    · exact .inr ⟨by omega, .inl (by omega)⟩
    · exact .inr ⟨by omega, .inl (by omega)⟩
  · rcases h2 with h2 | ⟨e3, h2 | ⟨e4, h2⟩⟩
    · exact .inl (by omega)
    · exact .inr ⟨by omega, .inl (by omega)⟩
    · exact .inr ⟨by omega, .inr ⟨by omega, bl_trans h1 h2⟩⟩
theorem ltP_tri {x y : Ply} (h : x.nm ≠ y.nm) : ltP x y ∨ ltP y x := by
  unfold ltP
  by_cases h1 : x.ma = y.ma
  · by_cases h2 : x.wo = y.wo
    · cases h3 : bl x.nm y.nm with
      | true => exact .inl (.inr ⟨h1, .inr ⟨h2, rfl⟩⟩)
      | false =>
        cases h4 : bl y.nm x.nm with
        | true => exact .inr (.inr ⟨h1.symm, .inr ⟨h2.symm, rfl⟩⟩)
        | false => exact absurd (bl_tri h3 h4) h
    · rcases Int.lt_or_gt_of_ne h2 with h3 | h3
      · exact .inr (.inr ⟨h1.symm, .inl h3⟩)
      · exact .inl (.inr ⟨h1, .inl h3⟩)
  · rcases Int.lt_or_gt_of_ne h1 with h3 | h3
    · exact .inr (.inl h3)
    · exact .inl (.inl h3)
theorem ltP_ntrans {x y z : Ply} (h1 : ¬ ltP x y) (h2 : ¬ ltP y z) : ¬ ltP x z := by
  intro h
  by_cases hxy : x.ma = y.ma ∧ x.wo = y.wo ∧ x.nm = y.nm
  · refine h2 ?_
    unfold ltP at h ⊢
    rw [hxy.1, hxy.2.1, hxy.2.2] at h
    exact h
  · have h3 : ltP y x := by
      by_cases hn : x.nm = y.nm
      · unfold ltP at h1 ⊢
        rw [hn, bl_irr] at h1
        rw [hn, bl_irr]
        have : ¬ (x.ma = y.ma ∧ x.wo = y.wo) := fun hh => hxy ⟨hh.1, hh.2, hn⟩
        simp only [Bool.false_eq_true, and_false, or_false] at h1 ⊢
        omega
      · exact (ltP_tri hn).resolve_left h1
    exact h2 (ltP_trans h3 h)
/-- One more, in its place. -/
def insP (x : Ply) : List Ply → List Ply
  | [] => [x]
  | y :: l => if ahP y x = true then y :: insP x l else x :: y :: l
def ranksP : List Ply → List Ply → List Ply
  | out, [] => out
  | out, x :: l => ranksP (insP x out) l
theorem insP_perm (x : Ply) : ∀ l : List Ply, (insP x l).Perm (x :: l)
  | [] => .refl _
  | y :: l => by
    rw [insP]
    split
    · exact ((insP_perm x l).cons y).trans (.swap x y l)
    · exact .refl _
theorem ranksP_perm : ∀ (l out : List Ply), (ranksP out l).Perm (out ++ l)
  | [], out => by rw [ranksP, List.append_nil]
  | x :: l, out => by
    rw [ranksP]
    refine (ranksP_perm l _).trans ?_
    refine ((insP_perm x out).append_right l).trans ?_
    rw [List.cons_append]
    exact (List.perm_middle).symm
theorem insP_sorted {x : Ply} : ∀ {l : List Ply}, l.Pairwise ltP → (∀ y, y ∈ l → y.nm ≠ x.nm) → (insP x l).Pairwise ltP
  | [], _, _ => by simp [insP]
  | y :: l, h, hn => by
    rw [List.pairwise_cons] at h
    rw [insP]
    split
    · rename_i ha
      refine List.pairwise_cons.2 ⟨fun z hz => ?_, insP_sorted h.2 (fun z hz => hn z (by simp [hz]))⟩
      rcases List.mem_cons.1 ((insP_perm x l).mem_iff.1 hz) with rfl | hz
      · exact (ahP_lt _ _).1 ha
      · exact h.1 z hz
    · rename_i ha
      have hxy : ltP x y := (ltP_tri (hn y (by simp))).resolve_left (fun hh => ha ((ahP_lt _ _).2 hh))
      refine List.pairwise_cons.2 ⟨fun z hz => ?_, List.pairwise_cons.2 h⟩
      rcases List.mem_cons.1 hz with rfl | hz
      · exact hxy
      · exact ltP_trans hxy (h.1 z hz)
theorem ranksP_sorted : ∀ {l out : List Ply}, out.Pairwise ltP → (out ++ l).Pairwise (fun x y => x.nm ≠ y.nm) → (ranksP out l).Pairwise ltP
  | [], out, h, _ => h
  | x :: l, out, h, hd => by
    rw [ranksP]
    refine ranksP_sorted (insP_sorted h fun y hy => ?_) ?_
    · exact (List.pairwise_append.1 hd).2.2 y hy x (by simp)
    · have hp : (insP x out ++ l).Perm (out ++ x :: l) := by
        refine ((insP_perm x out).append_right l).trans ?_
        rw [List.cons_append]
        exact (List.perm_middle).symm
      exact hp.symm.pairwise hd (fun {_ _} e => Ne.symm e)
theorem sorted_eqP {s t : List Ply} (hs : s.Pairwise ltP) (ht : t.Pairwise ltP) (hp : s.Perm t) : s = t :=
  hp.eq_of_pairwise (le := ltP) (fun a _ _ _ h1 h2 => absurd (ltP_trans h1 h2) (ltP_irr a)) hs ht
/-- A player's place. -/
def plAt (n : List UInt8) : List Ply → Option Nat
  | [] => none
  | y :: l => if y.nm = n then some 0 else (plAt n l).map (· + 1)
def plV (n : List UInt8) (l : List Ply) : Int := match plAt n l with | some i => i | none => -1
theorem plAt_some : ∀ {n : List UInt8} {l : List Ply} {i : Nat}, plAt n l = some i → i < l.length ∧ (l.getD i pl0).nm = n ∧ ∀ j, j < i → (l.getD j pl0).nm ≠ n
  | n, [], i, h => by simp [plAt] at h
  | n, y :: l, i, h => by
    rw [plAt] at h
    by_cases hy : y.nm = n
    · rw [if_pos hy] at h
      simp only [Option.some.injEq] at h
      subst h
      exact ⟨by simp, by simpa using hy, fun j hj => by omega⟩
    · rw [if_neg hy] at h
      cases hp : plAt n l with
      | none => rw [hp] at h; cases h
      | some k =>
        rw [hp] at h
        simp only [Option.map_some, Option.some.injEq] at h
        subst h
        obtain ⟨h1, h2, h3⟩ := plAt_some hp
        refine ⟨by simpa using h1, by simpa using h2, fun j hj => ?_⟩
        cases j with
        | zero => simpa using hy
        | succ j => simpa using h3 j (by omega)
theorem plAt_none : ∀ {n : List UInt8} {l : List Ply}, plAt n l = none → ∀ y, y ∈ l → y.nm ≠ n
  | n, [], _, y, hy => by simp at hy
  | n, x :: l, h, y, hy => by
    rw [plAt] at h
    by_cases hx : x.nm = n
    · rw [if_pos hx] at h; cases h
    · rw [if_neg hx] at h
      cases hp : plAt n l with
      | some k => rw [hp] at h; cases h
      | none =>
        rcases List.mem_cons.1 hy with rfl | hy
        · exact hx
        · exact plAt_none hp y hy
/-- What a game changes, held within what marks may be. -/
def movI (n p q : Int) : Int := max (max (min (min n (4000 - p)) q) (-p)) (q - 4000)
def cntP (x : Ply) (e : Int) : Ply := if e = 2 then { x with wo := x.wo + 1 } else if e = 1 then { x with dr := x.dr + 1 } else if e = 0 then { x with lo := x.lo + 1 } else x
def mkP (x : Ply) (m : Int) : Ply := { x with ma := m }
/-- The players behind a game of those at i and k. -/
def gameP (l : List Ply) (i k : Nat) (n e : Int) : List Ply :=
  (l.set i (cntP (mkP (l.getD i pl0) ((l.getD i pl0).ma + movI n (l.getD i pl0).ma (l.getD k pl0).ma)) e)).set k (cntP (mkP (l.getD k pl0) ((l.getD k pl0).ma - movI n (l.getD i pl0).ma (l.getD k pl0).ma)) (2 - e))
end Go.Proofs.Ytimplkdmhndalaa
