/- Two ways to put numbers in order, in plain words. -/
import Derived.Lib.Hide
namespace Go.Proofs.Ytgdofgckjkmhjaa
/-- One comes ahead of another: by its key, then by its number. -/
def lex (K : Nat → Int) (a b : Nat) : Prop := K a < K b ∨ (K a = K b ∧ a < b)
theorem lex_trans {K : Nat → Int} {a b c : Nat} (h : lex K a b) (g : lex K b c) : lex K a c := by unfold lex at *; omega
theorem lex_ne {K : Nat → Int} {a b : Nat} (h : lex K a b) : ¬ lex K b a := by unfold lex at *; omega
theorem lex_irr {K : Nat → Int} {a : Nat} : ¬ lex K a a := by unfold lex; omega
/-- In order, and just the numbers below n. -/
structure Srt (K : Nat → Int) (n : Nat) (l : List Nat) : Prop where
  ord : l.Pairwise (lex K)
  mem : ∀ x, x ∈ l ↔ x < n
theorem pw_eq {K : Nat → Int} : ∀ (l m : List Nat), l.Pairwise (lex K) → m.Pairwise (lex K) → (∀ x, x ∈ l ↔ x ∈ m) → l = m
  | [], [], _, _, _ => rfl
  | [], b :: m, _, _, h => by have := (h b).2 (by simp); simp at this
  | a :: l, [], _, _, h => by have := (h a).1 (by simp); simp at this
  | a :: l, b :: m, hl, hm, h => by
    rw [List.pairwise_cons] at hl hm
    have hab : a = b := by
      have h1 := (h a).1 (by simp)
      have h2 := (h b).2 (by simp)
      simp only [List.mem_cons] at h1 h2
      rcases h1 with h1 | h1
      · exact h1
      · rcases h2 with h2 | h2
        · exact h2.symm
        · exact absurd (hm.1 a h1) (lex_ne (hl.1 b h2))
    subst hab
    rw [pw_eq l m hl.2 hm.2 fun x => ?_]
    have := h x
    simp only [List.mem_cons] at this
    constructor
    · intro hx
      rcases this.1 (.inr hx) with rfl | h2
      · exact absurd (hl.1 x hx) lex_irr
      · exact h2
    · intro hx
      rcases this.2 (.inr hx) with rfl | h2
      · exact absurd (hm.1 x hx) lex_irr
      · exact h2
theorem Srt.eq {K : Nat → Int} {n : Nat} {l m : List Nat} (h : Srt K n l) (g : Srt K n m) : l = m :=
  pw_eq l m h.ord g.ord fun x => by rw [h.mem, g.mem]
theorem Srt.nil (K : Nat → Int) : Srt K 0 [] := ⟨List.Pairwise.nil, by simp⟩
/-- The place for the next number: all from k on come behind it. -/
structure Plc (K : Nat → Int) (n : Nat) (l : List Nat) (k : Nat) : Prop where
  le : k ≤ l.length
  aft : ∀ x ∈ l.drop k, K n < K x
theorem Plc.top (K : Nat → Int) (n : Nat) (l : List Nat) : Plc K n l l.length := ⟨Nat.le_refl _, by simp⟩
theorem Plc.down {K : Nat → Int} {n : Nat} {l : List Nat} {k : Nat} (h : Plc K n l (k + 1)) (hk : K n < K (l.getD k 0)) : Plc K n l k := by
  have hle := h.le
  refine ⟨by omega, fun x hx => ?_⟩
  rw [List.drop_eq_getElem_cons (by omega)] at hx
  simp only [List.mem_cons] at hx
  rcases hx with rfl | hx
  · simpa [List.getD, show k < l.length by omega] using hk
  · exact h.aft x hx
theorem Srt.put {K : Nat → Int} {n : Nat} {l : List Nat} {k : Nat} (h : Srt K n l) (p : Plc K n l k) (hk : k = 0 ∨ K (l.getD (k - 1) 0) ≤ K n) : Srt K (n + 1) (l.take k ++ n :: l.drop k) := by
  have hsp : l = l.take k ++ l.drop k := (List.take_append_drop k l).symm
  have hord := h.ord
  rw [hsp, List.pairwise_append] at hord
  have hle := p.le
  refine ⟨?_, fun x => ?_⟩
  · rw [List.pairwise_append, List.pairwise_cons]
    refine ⟨hord.1, ⟨fun x hx => .inl (p.aft x hx), hord.2.1⟩, fun a ha b hb => ?_⟩
    simp only [List.mem_cons] at hb
    rcases hb with rfl | hb
    · have han : a < b := (h.mem a).1 (List.mem_of_mem_take ha)
      have hK : K a ≤ K b := by
        rcases hk with rfl | hk
        · simp at ha
        · obtain ⟨i, hi, rfl⟩ := List.getElem_of_mem ha
          simp only [List.length_take] at hi
          rw [List.getElem_take]
          have hk1 : l.getD (k - 1) 0 = l[k - 1]'(by omega) := by simp [List.getD, show k - 1 < l.length by omega]
          rw [hk1] at hk
          rcases Nat.lt_or_ge i (k - 1) with h1 | h1
          · have := List.pairwise_iff_getElem.1 h.ord i (k - 1) (by omega) (by omega) h1
            unfold lex at this; omega
          · obtain rfl : i = k - 1 := by omega
            exact hk
      unfold lex; omega
    · exact hord.2.2 a ha b hb
  · have := h.mem x
    rw [hsp] at this
    simp only [List.mem_append, List.mem_cons] at this ⊢
    constructor
    · rintro (h1 | rfl | h1)
      · have := this.1 (.inl h1); omega
      · omega
      · have := this.1 (.inr h1); omega
    · intro hx
      by_cases g : x = n
      · exact .inr (.inl g)
      · rcases this.2 (by omega) with h1 | h1
        · exact .inl h1
        · exact .inr (.inr h1)
/-- What was chosen so far: in order, and ahead of all that wasn't. -/
structure Sel (K : Nat → Int) (n : Nat) (l : List Nat) : Prop where
  ord : l.Pairwise (lex K)
  lt : ∀ x ∈ l, x < n
  bef : ∀ x ∈ l, ∀ y, y < n → y ∉ l → lex K x y
theorem Sel.nil (K : Nat → Int) (n : Nat) : Sel K n [] := ⟨List.Pairwise.nil, by simp, by simp⟩
/-- The best one of those below i that weren't chosen yet. -/
def Bst (K : Nat → Int) (l : List Nat) (i : Nat) (b : Int) : Prop :=
  (b = -1 ∧ ∀ y, y < i → y ∈ l) ∨ (∃ c : Nat, b = c ∧ c < i ∧ c ∉ l ∧ ∀ y, y < i → y ∉ l → y ≠ c → lex K c y)
theorem Bst.zero (K : Nat → Int) (l : List Nat) : Bst K l 0 (-1) := .inl ⟨rfl, by omega⟩
theorem Bst.used {K : Nat → Int} {l : List Nat} {i : Nat} {b : Int} (h : Bst K l i b) (hi : i ∈ l) : Bst K l (i + 1) b := by
  rcases h with ⟨rfl, h⟩ | ⟨c, rfl, h1, h2, h3⟩
  · refine .inl ⟨rfl, fun y hy => ?_⟩
    rcases Nat.lt_or_ge y i with g | g
    · exact h y g
    · obtain rfl : y = i := by omega
      exact hi
  · refine .inr ⟨c, rfl, by omega, h2, fun y hy hn hc => ?_⟩
    rcases Nat.lt_or_ge y i with g | g
    · exact h3 y g hn hc
    · obtain rfl : y = i := by omega
      exact absurd hi hn
theorem Bst.first {K : Nat → Int} {l : List Nat} {i : Nat} (h : Bst K l i (-1)) (hi : i ∉ l) : Bst K l (i + 1) i := by
  rcases h with ⟨_, h⟩ | ⟨c, h0, _⟩
  · refine .inr ⟨i, rfl, by omega, hi, fun y hy hn hc => ?_⟩
    exact absurd (h y (by omega)) hn
  · omega
theorem Bst.better {K : Nat → Int} {l : List Nat} {i c : Nat} (h : Bst K l i (c : Int)) (hi : i ∉ l) (hk : K i < K c) : Bst K l (i + 1) i := by
  rcases h with ⟨h0, h⟩ | ⟨d, h0, h1, h2, h3⟩
  · omega
  · obtain rfl : c = d := by omega
    refine .inr ⟨i, rfl, by omega, hi, fun y hy hn hc => ?_⟩
    by_cases g : y = c
    · subst g; exact .inl hk
    · have := h3 y (by omega) hn g
      unfold lex at *; omega
theorem Bst.worse {K : Nat → Int} {l : List Nat} {i c : Nat} (h : Bst K l i (c : Int)) (hk : ¬ K i < K c) : Bst K l (i + 1) c := by
  rcases h with ⟨h0, h⟩ | ⟨d, h0, h1, h2, h3⟩
  · omega
  · obtain rfl : c = d := by omega
    refine .inr ⟨c, rfl, by omega, h2, fun y hy hn hc => ?_⟩
    rcases Nat.lt_or_ge y i with g | g
    · exact h3 y g hn hc
    · obtain rfl : y = i := by omega
      unfold lex; omega
theorem Bst.lt {K : Nat → Int} {l : List Nat} {i c : Nat} (h : Bst K l i (c : Int)) : c < i ∧ c ∉ l := by
  rcases h with ⟨h0, h⟩ | ⟨d, h0, h1, h2, h3⟩
  · omega
  · obtain rfl : c = d := by omega
    exact ⟨h1, h2⟩
/-- As long as fewer than n were chosen there is one more. -/
theorem nodup_le : ∀ (n : Nat) (l : List Nat), l.Nodup → (∀ x ∈ l, x < n) → l.length ≤ n
  | 0, l, _, h => by
    cases l with
    | nil => simp
    | cons a l => have := h a (by simp); omega
  | n + 1, l, hd, h => by
    have h1 := nodup_le n (l.erase n) (hd.erase n) (fun x hx => by
      have h2 := h x (List.mem_of_mem_erase hx)
      have h3 : x ≠ n := fun e => by subst e; exact (List.Nodup.not_mem_erase hd) hx
      omega)
    have h2 := List.length_erase (a := n) (l := l)
    split at h2 <;> omega
theorem Sel.nodup {K : Nat → Int} {n : Nat} {l : List Nat} (h : Sel K n l) : l.Nodup := h.ord.imp fun hab e => by subst e; exact lex_irr hab
theorem Sel.full {K : Nat → Int} {n : Nat} {l : List Nat} (h : Sel K n l) (hl : n ≤ l.length) : Srt K n l := by
  refine ⟨h.ord, fun x => ⟨h.lt x, fun hx => ?_⟩⟩
  by_cases g : x ∈ l
  · exact g
  · have := nodup_le n (x :: l) (List.nodup_cons.2 ⟨g, h.nodup⟩) (fun y hy => by
      simp only [List.mem_cons] at hy
      rcases hy with rfl | hy
      · exact hx
      · exact h.lt y hy)
    simp at this
    omega
theorem Sel.there {n : Nat} {l : List Nat} (hl : l.length < n) (h : ∀ y, y < n → y ∈ l) : False := by
  have h1 : ∀ (n : Nat) (l : List Nat), (∀ y, y < n → y ∈ l) → n ≤ l.length := by
    intro n
    induction n with
    | zero => intro l _; omega
    | succ n ih =>
      intro l h
      have h2 := ih (l.erase n) (fun y hy => (List.mem_erase_of_ne (by omega)).2 (h y (by omega)))
      have h3 := List.length_erase_of_mem (h n (by omega))
      have h4 := List.length_pos_of_mem (h n (by omega))
      omega
  have := h1 n l h
  omega
theorem Sel.add {K : Nat → Int} {n : Nat} {l : List Nat} {c : Nat} (h : Sel K n l) (hb : Bst K l n (c : Int)) : Sel K n (l ++ [c]) := by
  obtain ⟨h1, h2⟩ := hb.lt
  rcases hb with ⟨h0, _⟩ | ⟨d, h0, _, _, h3⟩
  · omega
  · obtain rfl : c = d := by omega
    refine ⟨?_, fun x hx => ?_, fun x hx y hy hn => ?_⟩
    · rw [List.pairwise_append]
      refine ⟨h.ord, by simp, fun a ha b hb => ?_⟩
      simp at hb; subst hb
      exact h.bef a ha _ h1 h2
    · simp at hx
      rcases hx with hx | rfl
      · exact h.lt x hx
      · exact h1
    · simp at hx hn
      rcases hx with hx | rfl
      · exact h.bef x hx y hy hn.1
      · exact h3 y hy hn.1 hn.2
end Go.Proofs.Ytgdofgckjkmhjaa
