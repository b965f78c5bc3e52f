/- Numbers as texts: the plain law. -/
import Derived.Lib.Hide
namespace Go.Proofs.YtdfbofkdlgfblaaDoor
structure Hx (p : Prop) : Prop where
  out : p
theorem hx {p : Prop} (h : p) : Hx p := ⟨h⟩
/-- The digits of a number, the last one first; none of 0. -/
def rdF : Nat → Nat → List UInt8
  | 0, _ => []
  | f + 1, m => if m = 0 then [] else (UInt8.ofNat (48 + m % 10)) :: rdF f (m / 10)
def rd (m : Nat) : List UInt8 := rdF (m + 1) m
theorem rdF_enough : ∀ (f g m : Nat), m < f → m < g → rdF f m = rdF g m
  | 0, _, _, h, _ => by omega
  | _, 0, _, _, h => by omega
  | f + 1, g + 1, m, hf, hg => by
    unfold rdF
    by_cases h0 : m = 0
    · rw [if_pos h0, if_pos h0]
    · rw [if_neg h0, if_neg h0, rdF_enough f g (m / 10) (by omega) (by omega)]
theorem rd_zero : rd 0 = [] := rfl
theorem rd_pos {m : Nat} (h : m ≠ 0) : rd m = UInt8.ofNat (48 + m % 10) :: rd (m / 10) := by
  unfold rd
  rw [rdF, if_neg h, rdF_enough m (m / 10 + 1) (m / 10) (by omega) (by omega)]
/-- A number's text. -/
def digs (m : Nat) : List UInt8 := if m = 0 then [48] else (rd m).reverse
def numL (n : Int) : List UInt8 := if n < 0 then 45 :: digs n.natAbs else digs n.natAbs
theorem digs_small {m : Nat} (h : m < 10) : digs m = [UInt8.ofNat (48 + m)] := by
  unfold digs
  by_cases h0 : m = 0
  · subst h0; rfl
  · rw [if_neg h0, rd_pos h0, show m / 10 = 0 by omega, rd_zero, show m % 10 = m by omega]
    rfl
theorem digs_big {m : Nat} (h : 10 ≤ m) : digs m = digs (m / 10) ++ [UInt8.ofNat (48 + m % 10)] := by
  unfold digs
  rw [if_neg (by omega), if_neg (by omega), rd_pos (by omega), List.reverse_cons]
theorem rd_len (k : Nat) : ∀ m : Nat, m < 10 ^ k → (rd m).length ≤ k := by
  induction k with
  | zero => intro m h; have : m = 0 := by simpa using h
            subst this; simp [rd_zero]
  | succ k ih =>
    intro m h
    by_cases h0 : m = 0
    · subst h0; simp [rd_zero]
    · rw [rd_pos h0, List.length_cons]
      have := ih (m / 10) (by rw [Nat.div_lt_iff_lt_mul (by omega)]; rw [Nat.pow_succ] at h; omega)
      omega
theorem dig_toNat {d : Nat} (h : d < 10) : (UInt8.ofNat (48 + d)).toNat = 48 + d := by
  rw [UInt8.toNat_ofNat']
  omega
/-- What a run over digits makes: below 0. -/
def runI (n : Int) (l : List UInt8) : Int := l.foldl (fun n c => n * 10 - ((c.toNat : Int) - 48)) n
theorem runI_snoc (n : Int) (l : List UInt8) (c : UInt8) : runI n (l ++ [c]) = runI n l * 10 - ((c.toNat : Int) - 48) := by
  unfold runI
  rw [List.foldl_append]
  rfl
theorem runI_digs (m : Nat) : runI 0 (digs m) = -(m : Int) := by
  induction m using Nat.strongRecOn with
  | ind m ih =>
    by_cases h : m < 10
    · rw [digs_small h]
      show (0 : Int) * 10 - (((UInt8.ofNat (48 + m)).toNat : Int) - 48) = -(m : Int)
      rw [dig_toNat h]
      omega
    · rw [digs_big (by omega), runI_snoc, ih (m / 10) (by omega), dig_toNat (Nat.mod_lt _ (by omega))]
      omega
def isD (c : UInt8) : Prop := 48 ≤ c.toNat ∧ c.toNat ≤ 57
theorem digs_isD (m : Nat) : ∀ c, c ∈ digs m → isD c := by
  induction m using Nat.strongRecOn with
  | ind m ih =>
    intro c hc
    by_cases h : m < 10
    · rw [digs_small h] at hc
      simp only [List.mem_singleton] at hc
      subst hc
      unfold isD
      rw [dig_toNat h]
      omega
    · rw [digs_big (by omega)] at hc
      rcases List.mem_append.1 hc with hc | hc
      · exact ih (m / 10) (by omega) c hc
      · simp only [List.mem_singleton] at hc
        subst hc
        unfold isD
        rw [dig_toNat (Nat.mod_lt _ (by omega))]
        omega
theorem snoc_ind {α : Type} {Q : List α → Prop} (h0 : Q []) (h1 : ∀ l x, Q l → Q (l ++ [x])) (l : List α) : Q l := by
  have h : ∀ k : List α, Q k.reverse := by
    intro k
    induction k with
    | nil => exact h0
    | cons x k ih => rw [List.reverse_cons]; exact h1 _ _ ih
  have := h l.reverse
  rwa [List.reverse_reverse] at this
/-- A run of digits with none of 0 ahead is the text of what it makes. -/
theorem digs_runI : ∀ (l : List UInt8), l ≠ [] → (∀ c, c ∈ l → isD c) → (1 < l.length → l.head? ≠ some 48) → ∃ m : Nat, runI 0 l = -(m : Int) ∧ digs m = l := by
  intro l
  induction l using snoc_ind with
  | h0 => intro h; exact absurd rfl h
  | h1 l c ih =>
    intro _ hd h0
    have hc := hd c (by simp)
    unfold isD at hc
    have hu : ∀ d : Nat, c.toNat = 48 + d → c = UInt8.ofNat (48 + d) := fun d h => by
      apply UInt8.toNat_inj.1
      rw [UInt8.toNat_ofNat', h]
      omega
    by_cases hl : l = []
    · subst hl
      refine ⟨c.toNat - 48, ?_, ?_⟩
      · show (0 : Int) * 10 - ((c.toNat : Int) - 48) = _
        omega
      · rw [digs_small (by omega)]
        exact congrArg (fun x => [x]) (hu (c.toNat - 48) (by omega)).symm
    · obtain ⟨m, h1, h2⟩ := ih hl (fun x hx => hd x (by simp [hx])) (fun hlen => by
        have h3 := h0 (by simp; omega)
        cases l with
        | nil => exact absurd rfl hl
        | cons y l => simpa using h3)
      have hm0 : m ≠ 0 := by
        rintro rfl
        have h4 : l = [48] := by rw [← h2]; rfl
        subst h4
        exact h0 (by simp) (by simp)
      refine ⟨m * 10 + (c.toNat - 48), ?_, ?_⟩
      · rw [runI_snoc, h1]
        omega
      · rw [digs_big (by omega), show (m * 10 + (c.toNat - 48)) / 10 = m by omega, show (m * 10 + (c.toNat - 48)) % 10 = c.toNat - 48 by omega, h2, ← hu (c.toNat - 48) (by omega)]
/-- A number that has 64 bits. -/
def in64 (v : Int) : Prop := -9223372036854775808 ≤ v ∧ v ≤ 9223372036854775807
theorem digs_ne (m : Nat) : digs m ≠ [] := by
  by_cases h : m < 10
  · rw [digs_small h]; simp
  · rw [digs_big (by omega)]; simp
theorem digs_len {m : Nat} (h : m < 10 ^ 19) : (digs m).length ≤ 19 := by
  unfold digs
  by_cases h0 : m = 0
  · simp [h0]
  · rw [if_neg h0, List.length_reverse]
    exact rd_len 19 m h
theorem digs_head {m : Nat} (h : 1 < (digs m).length) : (digs m).head? ≠ some 48 := by
  induction m using Nat.strongRecOn with
  | ind m ih =>
    by_cases h1 : m < 10
    · rw [digs_small h1] at h; simp at h
    · rw [digs_big (by omega)] at h ⊢
      by_cases h2 : m / 10 < 10
      · rw [digs_small h2]
        intro e
        simp only [List.cons_append, List.head?_cons, Option.some.injEq] at e
        have e2 := congrArg UInt8.toNat e
        rw [dig_toNat h2] at e2
        have : (48 : UInt8).toNat = 48 := rfl
        omega
      · have h3 : 1 < (digs (m / 10)).length := by
          rw [digs_big (by omega), List.length_append]
          have := List.length_pos_iff.2 (digs_ne (m / 10 / 10))
          simp
          omega
        have h4 := ih (m / 10) (by omega) h3
        cases hd : digs (m / 10) with
        | nil => exact absurd hd (digs_ne _)
        | cons y l => rw [hd] at h4; simpa using h4
theorem digs_nominus (m : Nat) : (digs m).head? ≠ some 45 := by
  intro e
  have hm : (45 : UInt8) ∈ digs m := List.mem_of_mem_head? e
  have := digs_isD m 45 hm
  unfold isD at this
  have h2 : (45 : UInt8).toNat = 45 := rfl
  omega
/-- The program's run over digits: none if there is another sign, or it is too great. -/
def loopR : Int → List UInt8 → Option Int
  | n, [] => some n
  | n, c :: l => if ¬ (48 ≤ c.toNat ∧ c.toNat ≤ 57) then none else if n < Int.tdiv (-9223372036854775808 + ((c.toNat : Int) - 48)) 10 then none else loopR (n * 10 - ((c.toNat : Int) - 48)) l
theorem tdiv_ge {n d : Int} (hd : 0 ≤ d ∧ d ≤ 9) : n < Int.tdiv (-9223372036854775808 + d) 10 ↔ n * 10 - d < -9223372036854775808 := by
  have e : Int.tdiv (-9223372036854775808 + d) 10 = -((9223372036854775808 - d) / 10) := by
    have h1 : (-9223372036854775808 + d) = -(9223372036854775808 - d) := by omega
    rw [h1, Int.neg_tdiv, Int.tdiv_eq_ediv_of_nonneg (by omega)]
  rw [e]
  omega
theorem loopR_some : ∀ (l : List UInt8) (n : Int), n ≤ 0 → -9223372036854775808 ≤ n → ∀ v, loopR n l = some v → (∀ c, c ∈ l → isD c) ∧ v = runI n l ∧ -9223372036854775808 ≤ v ∧ v ≤ 0 := by
  intro l
  induction l with
  | nil => intro n h1 h2 v h; simp only [loopR, Option.some.injEq] at h; subst h; exact ⟨by simp, rfl, h2, h1⟩
  | cons c l ih =>
    intro n h1 h2 v h
    unfold loopR at h
    split at h
    · cases h
    · rename_i hd
      have hd2 : 48 ≤ c.toNat ∧ c.toNat ≤ 57 := Decidable.not_not.1 hd
      split at h
      · cases h
      · rename_i hlt
        rw [tdiv_ge (by omega)] at hlt
        obtain ⟨h3, h4, h5⟩ := ih (n * 10 - ((c.toNat : Int) - 48)) (by omega) (by omega) v h
        refine ⟨fun x hx => ?_, h4, h5⟩
        rcases List.mem_cons.1 hx with rfl | hx
        · exact hd2
        · exact h3 x hx
theorem runI_le : ∀ (l : List UInt8) (n : Int), n ≤ 0 → (∀ c, c ∈ l → isD c) → runI n l ≤ n := by
  intro l
  induction l with
  | nil => intro n _ _; exact Int.le_refl _
  | cons c l ih =>
    intro n h1 hd
    have hc := hd c List.mem_cons_self
    unfold isD at hc
    have h2 := ih (n * 10 - ((c.toNat : Int) - 48)) (by omega) (fun x hx => hd x (List.mem_cons_of_mem _ hx))
    show runI (n * 10 - ((c.toNat : Int) - 48)) l ≤ n
    omega
theorem loopR_run : ∀ (l : List UInt8) (n : Int), n ≤ 0 → (∀ c, c ∈ l → isD c) → -9223372036854775808 ≤ runI n l → loopR n l = some (runI n l) := by
  intro l
  induction l with
  | nil => intro n _ _ _; rfl
  | cons c l ih =>
    intro n h1 hd hr
    have hc := hd c List.mem_cons_self
    unfold isD at hc
    have h2 := runI_le l (n * 10 - ((c.toNat : Int) - 48)) (by omega) (fun x hx => hd x (List.mem_cons_of_mem _ hx))
    have h3 : runI n (c :: l) = runI (n * 10 - ((c.toNat : Int) - 48)) l := rfl
    rw [h3] at hr ⊢
    unfold loopR
    rw [if_neg (Decidable.not_not.2 hc), if_neg (by rw [tdiv_ge (by omega)]; omega)]
    exact ih _ (by omega) (fun x hx => hd x (List.mem_cons_of_mem _ hx)) hr
/-- What the program reads: behind the sign. -/
def progD (mi : Bool) (ds : List UInt8) : Int × Bool :=
  if ds = [] ∨ 19 < ds.length ∨ (1 < ds.length ∧ ds.head? = some 48) ∨ (mi = true ∧ ds = [48]) then (0, false) else
  match loopR 0 ds with
  | none => (0, false)
  | some n => if mi = true then (n, true) else if n = -9223372036854775808 then (0, false) else (-n, true)
def progR (l : List UInt8) : Int × Bool := if l.head? = some 45 then progD true l.tail else progD false l
theorem progD_true {mi : Bool} {ds : List UInt8} {v : Int} (h : progD mi ds = (v, true)) : in64 v ∧ digs v.natAbs = ds ∧ (if mi = true then v < 0 else 0 ≤ v) := by
  unfold progD at h
  by_cases hg : ds = [] ∨ 19 < ds.length ∨ (1 < ds.length ∧ ds.head? = some 48) ∨ (mi = true ∧ ds = [48])
  · rw [if_pos hg] at h; simp at h
  · rw [if_neg hg] at h
    simp only [not_or, not_and] at hg
    obtain ⟨g1, g2, g3, g4⟩ := hg
    cases hn : loopR 0 ds with
    | none => rw [hn] at h; simp at h
    | some n =>
      rw [hn] at h
      obtain ⟨hd, hv, hl, hu⟩ := loopR_some _ 0 (by omega) (by omega) n hn
      obtain ⟨m, hm1, hm2⟩ := digs_runI _ g1 hd (fun hlen => g3 hlen)
      have hnm : n = -(m : Int) := by rw [hv, hm1]
      cases mi
      · simp only [Bool.false_eq_true, if_false] at h ⊢
        by_cases hne : n = -9223372036854775808
        · rw [if_pos hne] at h; simp at h
        · rw [if_neg hne] at h
          simp only [Prod.mk.injEq, and_true] at h
          have hvm : v = (m : Int) := by omega
          subst hvm
          exact ⟨⟨by omega, by omega⟩, by simpa using hm2, by omega⟩
      · simp only [if_true, Prod.mk.injEq, and_true] at h ⊢
        have hvm : v = -(m : Int) := by omega
        have hm0 : m ≠ 0 := by
          rintro rfl
          exact g4 rfl (by rw [← hm2]; rfl)
        exact ⟨⟨by omega, by omega⟩, by rw [show v.natAbs = m by omega]; exact hm2, by omega⟩
theorem progR_true {l : List UInt8} {v : Int} (h : progR l = (v, true)) : in64 v ∧ numL v = l := by
  unfold progR at h
  by_cases hm : l.head? = some 45
  · rw [if_pos hm] at h
    obtain ⟨h1, h2, h3⟩ := progD_true h
    simp only [if_true] at h3
    refine ⟨h1, ?_⟩
    unfold numL
    rw [if_pos h3, h2]
    cases l with
    | nil => simp at hm
    | cons y l =>
      simp only [List.head?_cons, Option.some.injEq] at hm
      rw [hm]; rfl
  · rw [if_neg hm] at h
    obtain ⟨h1, h2, h3⟩ := progD_true h
    simp only [Bool.false_eq_true, if_false] at h3
    refine ⟨h1, ?_⟩
    unfold numL
    rw [if_neg (by omega), h2]
theorem progR_num {v : Int} (hv : in64 v) : progR (numL v) = (v, true) := by
  unfold in64 at hv
  have hb : v.natAbs < 10 ^ 19 := by omega
  have hlen := digs_len hb
  have hrun := runI_digs v.natAbs
  have hlp := loopR_run (digs v.natAbs) 0 (by omega) (digs_isD _) (by rw [hrun]; omega)
  rw [hrun] at hlp
  unfold progR numL
  by_cases h0 : v < 0
  · rw [if_pos h0, if_pos (by rfl), List.tail_cons]
    unfold progD
    rw [if_neg, hlp]
    · simp only [if_true, Prod.mk.injEq, and_true]; omega
    · rintro (h | h | h | h)
      · exact digs_ne _ h
      · omega
      · exact digs_head h.1 h.2
      · have h2 := h.2
        have h3 := runI_digs v.natAbs
        rw [h2] at h3
        have h4 : runI 0 [48] = 0 := rfl
        omega
  · rw [if_neg h0, if_neg (digs_nominus _)]
    unfold progD
    rw [if_neg, hlp]
    · simp only [Bool.false_eq_true, if_false]
      rw [if_neg (by omega)]
      simp only [Prod.mk.injEq, and_true]; omega
    · rintro (h | h | h | h)
      · exact digs_ne _ h
      · omega
      · exact digs_head h.1 h.2
      · exact absurd h.1 (by simp)
theorem progD_false {mi : Bool} {ds : List UInt8} (h : (progD mi ds).2 = false) : progD mi ds = (0, false) := by
  unfold progD at *
  by_cases hg : ds = [] ∨ 19 < ds.length ∨ (1 < ds.length ∧ ds.head? = some 48) ∨ (mi = true ∧ ds = [48])
  · rw [if_pos hg]
  · rw [if_neg hg] at h ⊢
    cases hn : loopR 0 ds with
    | none => rfl
    | some n =>
      rw [hn] at h
      cases mi
      · simp only [Bool.false_eq_true, if_false] at h ⊢
        by_cases hne : n = -9223372036854775808
        · rw [if_pos hne]
        · rw [if_neg hne] at h; simp at h
      · simp at h
theorem progR_false {l : List UInt8} (h : (progR l).2 = false) : progR l = (0, false) := by
  unfold progR at *
  split
  · rename_i hm
    rw [if_pos hm] at h
    exact progD_false h
  · rename_i hm
    rw [if_neg hm] at h
    exact progD_false h
/-- What goes round at 64 bits. -/
def w64 (x : Int) : Int := (x + 9223372036854775808) % 18446744073709551616 - 9223372036854775808
theorem w64_in (x : Int) : in64 (w64 x) := by unfold in64 w64; omega
theorem w64_eq {x : Int} (h : in64 x) : w64 x = x := by unfold in64 at h; unfold w64; omega
/-- The document's run over digits. -/
def refLoop : Int → List UInt8 → Option Int
  | n, [] => some n
  | n, c :: l => if ¬ (48 ≤ c.toNat ∧ c.toNat ≤ 57) then none else refLoop (w64 (w64 (n * 10) - ((c.toNat : Int) - 48))) l
def refR (l : List UInt8) : Int × Bool :=
  if l = [] ∨ 20 < l.length then (0, false) else
  match refLoop 0 (if l.head? = some 45 then l.tail else l) with
  | none => (0, false)
  | some n => if numL (if l.head? = some 45 then n else w64 (-n)) = l then ((if l.head? = some 45 then n else w64 (-n)), true) else (0, false)
theorem refLoop_in : ∀ (l : List UInt8) (n v : Int), in64 n → refLoop n l = some v → in64 v := by
  intro l
  induction l with
  | nil => intro n v hn h; simp only [refLoop, Option.some.injEq] at h; subst h; exact hn
  | cons c l ih =>
    intro n v _ h
    unfold refLoop at h
    split at h
    · cases h
    · exact ih _ v (w64_in _) h
theorem refLoop_run : ∀ (l : List UInt8) (n : Int), n ≤ 0 → (∀ c, c ∈ l → isD c) → -9223372036854775808 ≤ runI n l → refLoop n l = some (runI n l) := by
  intro l
  induction l with
  | nil => intro n _ _ _; rfl
  | cons c l ih =>
    intro n h1 hd hr
    have hc := hd c List.mem_cons_self
    unfold isD at hc
    have h2 := runI_le l (n * 10 - ((c.toNat : Int) - 48)) (by omega) (fun x hx => hd x (List.mem_cons_of_mem _ hx))
    have h3 : runI n (c :: l) = runI (n * 10 - ((c.toNat : Int) - 48)) l := rfl
    rw [h3] at hr ⊢
    unfold refLoop
    rw [if_neg (Decidable.not_not.2 hc), w64_eq (x := n * 10) (by unfold in64; omega), w64_eq (x := n * 10 - _) (by unfold in64; omega)]
    exact ih _ (by omega) (fun x hx => hd x (List.mem_cons_of_mem _ hx)) hr
theorem numL_ne (v : Int) : numL v ≠ [] := by
  unfold numL
  split
  · simp
  · exact digs_ne _
theorem numL_head (v : Int) : (numL v).head? = some 45 ↔ v < 0 := by
  unfold numL
  by_cases h : v < 0
  · rw [if_pos h]; simp [h]
  · rw [if_neg h]
    exact ⟨fun e => absurd e (digs_nominus _), fun e => absurd e h⟩
theorem numL_len {v : Int} (hv : in64 v) : (numL v).length ≤ 20 := by
  unfold in64 at hv
  have hlen := digs_len (m := v.natAbs) (by omega)
  unfold numL
  split
  · simp; omega
  · omega
theorem refR_num {v : Int} (hv : in64 v) : refR (numL v) = (v, true) := by
  have hl := numL_len hv
  have hrun := runI_digs v.natAbs
  have hv2 := hv
  unfold in64 at hv
  have hlp := refLoop_run (digs v.natAbs) 0 (by omega) (digs_isD _) (by rw [hrun]; omega)
  rw [hrun] at hlp
  unfold refR
  rw [if_neg (by
    rintro (h | h)
    · exact numL_ne v h
    · omega)]
  by_cases h0 : v < 0
  · have hh := (numL_head v).2 h0
    have ht : (numL v).tail = digs v.natAbs := by unfold numL; rw [if_pos h0]; rfl
    rw [if_pos hh, ht, hlp]
    simp only [if_pos hh]
    rw [show -(v.natAbs : Int) = v by omega, if_pos rfl]
  · have hh : ¬ (numL v).head? = some 45 := fun e => h0 ((numL_head v).1 e)
    have ht : numL v = digs v.natAbs := by unfold numL; rw [if_neg h0]
    rw [if_neg hh]
    have h2 : refLoop 0 (numL v) = some (-(v.natAbs : Int)) := by rw [ht]; exact hlp
    rw [h2]
    simp only [if_neg hh]
    rw [show -(-(v.natAbs : Int)) = v by omega, w64_eq hv2, if_pos rfl]
theorem refR_true {l : List UInt8} {v : Int} (h : refR l = (v, true)) : in64 v ∧ numL v = l := by
  unfold refR at h
  by_cases hg : l = [] ∨ 20 < l.length
  · rw [if_pos hg] at h; simp at h
  · rw [if_neg hg] at h
    cases hn : refLoop 0 (if l.head? = some 45 then l.tail else l) with
    | none => rw [hn] at h; simp at h
    | some n =>
      rw [hn] at h
      simp only at h
      have hin := refLoop_in _ 0 n (by unfold in64; omega) hn
      by_cases he : numL (if l.head? = some 45 then n else w64 (-n)) = l
      · rw [if_pos he] at h
        simp only [Prod.mk.injEq, and_true] at h
        subst h
        refine ⟨?_, he⟩
        split
        · exact hin
        · exact w64_in _
      · rw [if_neg he] at h; simp at h
theorem refR_false {l : List UInt8} (h : (refR l).2 = false) : refR l = (0, false) := by
  unfold refR at *
  by_cases hg : l = [] ∨ 20 < l.length
  · rw [if_pos hg]
  · rw [if_neg hg] at h ⊢
    cases hn : refLoop 0 (if l.head? = some 45 then l.tail else l) with
    | none => rfl
    | some n =>
      rw [hn] at h
      simp only at h ⊢
      by_cases he : numL (if l.head? = some 45 then n else w64 (-n)) = l
      · rw [if_pos he] at h; simp at h
      · rw [if_neg he]
/-- Both read alike. -/
theorem read_eq (l : List UInt8) : progR l = refR l := by
  cases hp : (progR l).2 with
  | true =>
    have h1 := progR_true (l := l) (v := (progR l).1) (by rw [← hp])
    rw [← h1.2, refR_num h1.1, progR_num h1.1]
  | false =>
    cases hr : (refR l).2 with
    | true =>
      have h1 := refR_true (l := l) (v := (refR l).1) (by rw [← hr])
      rw [← h1.2, progR_num h1.1] at hp
      simp at hp
    | false => rw [progR_false hp, refR_false hr]
end Go.Proofs.YtdfbofkdlgfblaaDoor
