/- The plain law of the timer: the list of the program, and the one in order. -/
namespace Go.Proofs.Yteobkcmfpmolmaa
structure Hx (p : Prop) : Prop where
  out : p
theorem hx {p : Prop} (h : p) : Hx p := ⟨h⟩
/-- A key that runs. -/
structure En where
  key : Int
  due : Int
  no : Int
  deriving DecidableEq, Inhabited
def en0 : En := ⟨0, 0, 0⟩
def ltE (x y : En) : Prop := x.due < y.due ∨ (x.due = y.due ∧ x.no < y.no)
def cmpI (x y : Int) : Int := if x < y then -1 else if y < x then 1 else 0
def cfE (x y : En) : Int := if cmpI x.due y.due != 0 then cmpI x.due y.due else cmpI x.no y.no
theorem cfE_lt (x y : En) : cfE x y < 0 ↔ ltE x y := by
  unfold cfE cmpI ltE
  by_cases h1 : x.due < y.due
  · simp [h1]
  · by_cases h2 : y.due < x.due
    · simp [h1, h2]
      omega
    · have : x.due = y.due := by omega
      by_cases h3 : x.no < y.no
      · simp [h3, this]
      · by_cases h4 : y.no < x.no
        · simp [h3, h4, this]
        · simp [h3, h4, this]
/-- The program's list h, and s: the same in order. -/
structure Tp (h s : List En) (now no : Int) : Prop where
  perm : s.Perm h
  sorted : s.Pairwise ltE
  keys : s.Pairwise (fun x y => x.key ≠ y.key)
  nos : s.Pairwise (fun x y => x.no ≠ y.no)
  le : ∀ x, x ∈ s → 1 ≤ x.no ∧ x.no ≤ no
  due : ∀ x, x ∈ s → now < x.due ∧ x.due ≤ 2199023255552
  now0 : 0 ≤ now
  now1 : now ≤ 1099511627776
  no0 : 0 ≤ no
theorem Tp.len {h s : List En} {now no : Int} (t : Tp h s now no) : s.length = h.length := t.perm.length_eq
theorem Tp.nil : Tp [] [] 0 0 := ⟨.refl _, .nil, .nil, .nil, by simp, by simp, by omega, by omega, by omega⟩
/-- As the document tells it. -/
def pr (x : En) : Int × Int := (x.key, x.due)
def without (k : Int) (l : List (Int × Int)) : List (Int × Int) := l.filter (fun y => y.1 != k)
def notKey (k : Int) (x : En) : Bool := x.key != k
theorem without_map (k : Int) (s : List En) : without k (s.map pr) = (s.filter (notKey k)).map pr := by
  unfold without
  rw [List.filter_map]
  rfl
/-- One more, ahead of those that are due later. -/
def insT (x : Int × Int) : List (Int × Int) → List (Int × Int)
  | [] => [x]
  | y :: l => if x.2 < y.2 then x :: y :: l else y :: insT x l
def insE (x : En) : List En → List En
  | [] => [x]
  | y :: l => if x.due < y.due then x :: y :: l else y :: insE x l
theorem ins_map (x : En) (s : List En) : insT (pr x) (s.map pr) = (insE x s).map pr := by
  induction s with
  | nil => rfl
  | cons y s ih =>
    simp only [List.map_cons, insT, insE]
    by_cases h : x.due < y.due
    · rw [if_pos h, if_pos (show (pr x).2 < (pr y).2 from h)]; rfl
    · rw [if_neg h, if_neg (show ¬ (pr x).2 < (pr y).2 from h), ih]; rfl
theorem ins_perm (x : En) (s : List En) : (insE x s).Perm (x :: s) := by
  induction s with
  | nil => exact .refl _
  | cons y s ih =>
    unfold insE
    split
    · exact .refl _
    · exact (List.Perm.cons y ih).trans (List.Perm.swap x y s)
theorem ins_sorted (x : En) (s : List En) (hs : s.Pairwise ltE) (hno : ∀ y, y ∈ s → y.no < x.no) : (insE x s).Pairwise ltE := by
  induction s with
  | nil => simp [insE]
  | cons y s ih =>
    rw [List.pairwise_cons] at hs
    unfold insE
    split
    · rename_i h
      rw [List.pairwise_cons]
      refine ⟨fun z hz => ?_, List.pairwise_cons.2 hs⟩
      rcases List.mem_cons.1 hz with rfl | hz
      · exact .inl h
      · have := hs.1 z hz
        unfold ltE at *
        omega
    · rename_i h
      rw [List.pairwise_cons]
      refine ⟨fun z hz => ?_, ih hs.2 (fun z hz => hno z (List.mem_cons_of_mem _ hz))⟩
      rcases List.mem_cons.1 ((ins_perm x s).mem_iff.1 hz) with rfl | hz
      · have := hno y List.mem_cons_self
        unfold ltE
        omega
      · exact hs.1 z hz
/-- Where a key stands; -1. -/
def keyAt (k : Int) : List En → Option Nat
  | [] => none
  | x :: l => if x.key = k then some 0 else (keyAt k l).map (· + 1)
theorem keyAt_none {k : Int} {h : List En} (e : keyAt k h = none) : ∀ x, x ∈ h → x.key ≠ k := by
  induction h with
  | nil => intro x hx; simp at hx
  | cons y h ih =>
    unfold keyAt at e
    split at e
    · simp at e
    · rename_i hy
      intro x hx
      rcases List.mem_cons.1 hx with rfl | hx
      · exact hy
      · exact ih (by simpa using e) x hx
theorem keyAt_some {k : Int} {h : List En} {i : Nat} (e : keyAt k h = some i) : i < h.length ∧ (h.getD i en0).key = k := by
  induction h generalizing i with
  | nil => simp [keyAt] at e
  | cons y h ih =>
    unfold keyAt at e
    split at e
    · rename_i hy
      simp at e
      subst e
      simp [hy]
    · simp only [Option.map_eq_some_iff] at e
      obtain ⟨j, e1, rfl⟩ := e
      obtain ⟨h1, h2⟩ := ih e1
      simp only [List.length_cons, List.getD_cons_succ]
      exact ⟨by omega, h2⟩
theorem filter_all {k : Int} {s : List En} (h : ∀ x, x ∈ s → x.key ≠ k) : s.filter (notKey k) = s := by
  rw [List.filter_eq_self]
  intro x hx
  simp [notKey, h x hx]
theorem erase_filter {k : Int} {h : List En} {i : Nat} (e : keyAt k h = some i) (hk : h.Pairwise (fun x y => x.key ≠ y.key)) : h.eraseIdx i = h.filter (notKey k) := by
  induction h generalizing i with
  | nil => simp [keyAt] at e
  | cons y h ih =>
    rw [List.pairwise_cons] at hk
    unfold keyAt at e
    split at e
    · rename_i hy
      simp at e
      subst e
      rw [List.eraseIdx_cons_zero, List.filter_cons, if_neg (by simp [notKey, hy]), filter_all]
      intro x hx he
      exact hk.1 x hx (by rw [hy, he])
    · rename_i hy
      simp only [Option.map_eq_some_iff] at e
      obtain ⟨j, e1, rfl⟩ := e
      rw [List.eraseIdx_cons_succ, List.filter_cons, if_pos (by simp [notKey, hy]), ih e1 hk.2]
theorem Tp.hkeys {h s : List En} {now no : Int} (t : Tp h s now no) : h.Pairwise (fun x y => x.key ≠ y.key) :=
  t.perm.pairwise t.keys (fun {_ _} e => Ne.symm e)
theorem Tp.filter {h s : List En} {now no : Int} (t : Tp h s now no) (p : En → Bool) : Tp (h.filter p) (s.filter p) now no :=
  ⟨t.perm.filter p, t.sorted.filter p, t.keys.filter p, t.nos.filter p, fun x hx => t.le x (List.mem_filter.1 hx).1, fun x hx => t.due x (List.mem_filter.1 hx).1, t.now0, t.now1, t.no0⟩
theorem Tp.mem {h s : List En} {now no : Int} (t : Tp h s now no) (x : En) : x ∈ s ↔ x ∈ h := t.perm.mem_iff
theorem Tp.none {h s : List En} {now no k : Int} (t : Tp h s now no) (e : keyAt k h = none) : without k (s.map pr) = s.map pr := by
  rw [without_map, filter_all (fun x hx => keyAt_none e x ((t.mem x).1 hx))]
theorem Tp.erase {h s : List En} {now no k : Int} {i : Nat} (t : Tp h s now no) (e : keyAt k h = some i) : Tp (h.eraseIdx i) (s.filter (notKey k)) now no := by
  rw [erase_filter e t.hkeys]
  exact t.filter _
/-- One more, behind. -/
theorem Tp.add {h s : List En} {now no k d : Int} (t : Tp h s now no) (hk : ∀ x, x ∈ h → x.key ≠ k) (hd : now < d) (hd2 : d ≤ 2199023255552) : Tp (h ++ [⟨k, d, no + 1⟩]) (insE ⟨k, d, no + 1⟩ s) now (no + 1) := by
  have hp := ins_perm ⟨k, d, no + 1⟩ s
  refine ⟨hp.trans ((List.Perm.cons _ t.perm).trans (List.perm_append_singleton _ _).symm), ins_sorted _ _ t.sorted (fun y hy => by have := t.le y hy; simp; omega), ?_, ?_, ?_, ?_, t.now0, t.now1, by have := t.no0; omega⟩
  · refine hp.symm.pairwise (List.pairwise_cons.2 ⟨fun y hy => ?_, t.keys⟩) (fun {_ _} e => Ne.symm e)
    exact Ne.symm (hk y ((t.mem y).1 hy))
  · refine hp.symm.pairwise (List.pairwise_cons.2 ⟨fun y hy => ?_, t.nos⟩) (fun {_ _} e => Ne.symm e)
    have := t.le y hy
    show no + 1 ≠ y.no
    omega
  · intro x hx
    have h0 := t.no0
    rcases List.mem_cons.1 (hp.mem_iff.1 hx) with rfl | hx
    · simp; omega
    · have := t.le x hx; omega
  · intro x hx
    rcases List.mem_cons.1 (hp.mem_iff.1 hx) with rfl | hx
    · exact ⟨hd, hd2⟩
    · exact t.due x hx
/-- How many are due by then: the first ones. -/
def dueN (now : Int) : List En → Nat
  | [] => 0
  | x :: l => if x.due ≤ now then dueN now l + 1 else 0
theorem dueN_le (now : Int) (l : List En) : dueN now l ≤ l.length := by
  induction l with
  | nil => simp [dueN]
  | cons x l ih => unfold dueN; split <;> simp <;> omega
theorem dueN_at (now : Int) (l : List En) (i : Nat) (h : i < dueN now l) : (l.getD i en0).due ≤ now := by
  induction l generalizing i with
  | nil => simp [dueN] at h
  | cons x l ih =>
    unfold dueN at h
    split at h
    · rename_i hx
      cases i with
      | zero => simpa using hx
      | succ i => simp only [List.getD_cons_succ]; exact ih i (by omega)
    · omega
theorem dueN_end (now : Int) (l : List En) (h : dueN now l < l.length) : ¬ (l.getD (dueN now l) en0).due ≤ now := by
  induction l with
  | nil => simp at h
  | cons x l ih =>
    unfold dueN at h ⊢
    split
    · rename_i hx
      rw [if_pos hx] at h
      simp only [List.getD_cons_succ]
      exact ih (by simpa using h)
    · rename_i hx
      simpa using hx
theorem drop_due {s : List En} {n : Nat} {now : Int} (hs : s.Pairwise ltE) (hn : n = dueN now s) : s.take n = s.filter (fun x => decide (x.due ≤ now)) ∧ s.drop n = s.filter (fun x => !decide (x.due ≤ now)) := by
  subst hn
  induction s with
  | nil => simp [dueN]
  | cons x s ih =>
    rw [List.pairwise_cons] at hs
    unfold dueN
    by_cases hx : x.due ≤ now
    · obtain ⟨h1, h2⟩ := ih hs.2
      simp [hx, h1, h2]
    · have hall : ∀ y, y ∈ s → ¬ y.due ≤ now := fun y hy => by have := hs.1 y hy; unfold ltE at this; omega
      have e1 : s.filter (fun x => decide (x.due ≤ now)) = [] := by
        rw [List.filter_eq_nil_iff]
        intro y hy; simp [hall y hy] <;> omega
      have e2 : s.filter (fun x => !decide (x.due ≤ now)) = s := by
        rw [List.filter_eq_self]
        intro y hy; simp; have := hall y hy; omega
      simp [hx, e1, e2]
/-- Time goes by. -/
def nowT (now ticks : Int) : Int := now + max 0 (min ticks (1099511627776 - min now 1099511627776))
theorem now_le {now ticks : Int} (h1 : now ≤ 1099511627776) : now ≤ nowT now ticks ∧ nowT now ticks ≤ 1099511627776 := by unfold nowT; omega
theorem Tp.tick {h s : List En} {now no : Int} (t : Tp h s now no) (ticks : Int) : Tp (s.drop (dueN (nowT now ticks) s)) (s.drop (dueN (nowT now ticks) s)) (nowT now ticks) no := by
  obtain ⟨h1, h2⟩ := drop_due t.sorted (n := dueN (nowT now ticks) s) rfl
  have hl := now_le (ticks := ticks) t.now1
  have h0 := t.now0
  rw [h2]
  exact ⟨.refl _, t.sorted.filter _, t.keys.filter _, t.nos.filter _, fun x hx => t.le x (List.mem_filter.1 hx).1, fun x hx => ⟨by have := (List.mem_filter.1 hx).2; simp at this; omega, (t.due x (List.mem_filter.1 hx).1).2⟩, by omega, hl.2, t.no0⟩
/-- What the document's Tick leaves, and what came. -/
theorem due_map (s : List En) (now : Int) (hs : s.Pairwise ltE) : (s.take (dueN now s)).map (·.key) = ((s.map pr).filter (fun y => decide (y.2 ≤ now))).map (·.1) ∧ (s.drop (dueN now s)).map pr = (s.map pr).filter (fun y => !decide (y.2 ≤ now)) := by
  obtain ⟨h1, h2⟩ := drop_due hs (n := dueN now s) rfl
  rw [h1, h2, List.filter_map, List.filter_map, List.map_map]
  exact ⟨rfl, rfl⟩
/-- Two lists in order that hold the same are one. -/
theorem sorted_eq {s t : List En} (hs : s.Pairwise ltE) (ht : t.Pairwise ltE) (hp : s.Perm t) : s = t :=
  hp.eq_of_pairwise (le := ltE) (fun a b _ _ h1 h2 => by unfold ltE at *; omega) hs ht
end Go.Proofs.Yteobkcmfpmolmaa
