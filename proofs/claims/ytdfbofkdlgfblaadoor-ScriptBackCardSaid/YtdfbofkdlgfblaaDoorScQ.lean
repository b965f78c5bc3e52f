/- Acts as lines: the plain law of both sides. -/
import Derived.Test.YtdfbofkdlgfblaaDoorScP
import Derived.Lib.SplitLaws
import Derived.Lib.IndexBytes
namespace Go.Proofs.YtdfbofkdlgfblaaDoor
/-- A text's words: cut at each blank. -/
def splitL : List UInt8 → List (List UInt8)
  | [] => [[]]
  | c :: l => if c = 32 then [] :: splitL l else match splitL l with | [] => [[c]] | w :: r => (c :: w) :: r
theorem splitL_ne (l : List UInt8) : splitL l ≠ [] := by
  cases l with
  | nil => simp [splitL]
  | cons c l =>
    unfold splitL
    split
    · simp
    · split <;> simp
def joinL : List (List UInt8) → List UInt8
  | [] => []
  | [w] => w
  | w :: r => w ++ 32 :: joinL r
theorem joinL_cons (w : List UInt8) {r : List (List UInt8)} (h : r ≠ []) : joinL (w :: r) = w ++ 32 :: joinL r := by
  cases r with
  | nil => exact absurd rfl h
  | cons x r => rfl
theorem join_split (l : List UInt8) : joinL (splitL l) = l := by
  induction l with
  | nil => rfl
  | cons c l ih =>
    unfold splitL
    split
    · rename_i h
      rw [joinL_cons _ (splitL_ne l), ih, h]
      rfl
    · cases hs : splitL l with
      | nil => exact absurd hs (splitL_ne l)
      | cons w r =>
        rw [hs] at ih
        simp only
        cases r with
        | nil => rw [← ih]; rfl
        | cons x r =>
          rw [← ih]
          show joinL ((c :: w) :: x :: r) = c :: joinL (w :: x :: r)
          rw [joinL_cons (c :: w) (r := x :: r) (by simp), joinL_cons w (r := x :: r) (by simp)]
          rfl
theorem splitL_word {w : List UInt8} (h : (32 : UInt8) ∉ w) (l : List UInt8) : splitL (w ++ 32 :: l) = w :: splitL l := by
  induction w with
  | nil => show splitL (32 :: l) = _; rw [splitL, if_pos rfl]
  | cons c w ih =>
    rw [List.cons_append, splitL, if_neg (fun e => h (by rw [e]; simp)), ih (fun hm => h (by simp [hm]))]
theorem splitL_one {w : List UInt8} (h : (32 : UInt8) ∉ w) : splitL w = [w] := by
  induction w with
  | nil => rfl
  | cons c w ih => rw [splitL, if_neg (fun e => h (by rw [e]; simp)), ih (fun hm => h (by simp [hm]))]
theorem split_join : ∀ {ws : List (List UInt8)}, ws ≠ [] → (∀ w, w ∈ ws → (32 : UInt8) ∉ w) → splitL (joinL ws) = ws
  | [], h, _ => absurd rfl h
  | [w], _, h => splitL_one (h w (by simp))
  | w :: x :: r, _, h => by
    rw [joinL_cons _ (by simp), splitL_word (h w (by simp)), split_join (by simp) (fun y hy => h y (by simp [hy]))]
/-- The library's cut is this one. -/
theorem splitK_eq (l : List UInt8) : Lib.splitK [32] 0 (Lib.count l [32]) l = splitL l := by
  induction l with
  | nil => rw [Lib.count_miss (by rfl)]; rfl
  | cons c l ih =>
    by_cases hc : c = 32
    · subst hc
      have hix : Lib.index (32 :: l) [32] = ((0 : Nat) : Int) := by rw [Lib.index]; simp [List.isPrefixOf]
      rw [Lib.count_cons_eq, Nat.add_comm, Lib.splitK, if_neg (by rw [hix]; decide), hix]
      show [] :: Lib.splitK [32] 0 _ l = _
      rw [ih, splitL, if_pos rfl]
    · have hp : ([32] : List UInt8).isPrefixOf (c :: l) = false := by simp [List.isPrefixOf, Ne.symm hc]
      have hix : Lib.index (c :: l) [32] = if Lib.index l [32] == -1 then -1 else Lib.index l [32] + 1 := by rw [Lib.index, hp]; simp
      rw [Lib.count_cons_ne c 32 l hc, splitL, if_neg hc, ← ih]
      by_cases hm : Lib.index l [32] = -1
      · rw [Lib.count_miss hm]
        rfl
      · have hge := Lib.index_ge l [32]
        obtain ⟨j, hj⟩ : ∃ j : Nat, Lib.index l [32] = j := ⟨(Lib.index l [32]).toNat, by omega⟩
        have hix' : Lib.index (c :: l) [32] = ((j + 1 : Nat) : Int) := by rw [hix, if_neg (fun e => hm (beq_iff_eq.1 e)), hj]; omega
        obtain ⟨k, hk⟩ : ∃ k, Lib.count l [32] = k + 1 := ⟨_, (Lib.count_hit (by simp) hj).trans (Nat.add_comm _ _)⟩
        rw [hk, Lib.splitK, Lib.splitK, if_neg (fun e => by have := beq_iff_eq.1 e; omega), if_neg (fun e => by have := beq_iff_eq.1 e; omega), hix', hj]
        rfl
theorem split_cells (s : ByteArray) : (Lib.splitB { data := #[32] } 0 (Lib.countB s { data := #[32] }) s).map (·.data.toList) = splitL s.data.toList := by
  rw [Lib.splitB_data]
  exact splitK_eq s.data.toList
/-- The word of a kind; none of one that there is not. -/
def wordL (k : Int) : List UInt8 :=
  if k = 1 then [116, 105, 99, 107] else if k = 2 then [105, 110, 112, 117, 116] else if k = 3 then [109, 111, 118, 101] else if k = 4 then [100, 114, 111, 112] else
  if k = 5 then [100, 111, 117, 98, 108, 101] else if k = 6 then [115, 112, 111, 105, 108] else if k = 7 then [113, 117, 105, 116] else if k = 8 then [100, 114, 97, 105, 110] else []
/-- Which fields stand behind it. -/
def fldL (k : Int) : List UInt8 :=
  if k = 1 then [97] else if k = 2 then [119, 97] else if k = 3 then [119, 98, 97] else if k = 4 then [119, 98, 97] else
  if k = 5 then [119, 98, 97] else if k = 6 then [119, 98, 99, 100] else if k = 7 then [119, 97] else []
def cellN (c : UInt8) : Nat := if c = 119 then 1 else if c = 97 then 2 else if c = 98 then 3 else if c = 99 then 4 else 5
def readAll : List (List UInt8) → Option (List Int)
  | [] => some []
  | w :: r => if (progR w).2 = true then match readAll r with | some l => some ((progR w).1 :: l) | none => none else none
theorem readAll_some : ∀ {ws : List (List UInt8)} {ns : List Int}, readAll ws = some ns → ns.length = ws.length ∧ ws = ns.map numL ∧ ∀ n, n ∈ ns → in64 n
  | [], ns, h => by simp only [readAll, Option.some.injEq] at h; subst h; simp
  | w :: r, ns, h => by
    unfold readAll at h
    split at h
    · rename_i hw
      cases hr : readAll r with
      | none => rw [hr] at h; simp at h
      | some l =>
        rw [hr] at h
        simp only [Option.some.injEq] at h
        subst h
        obtain ⟨h1, h2, h3⟩ := readAll_some hr
        obtain ⟨h4, h5⟩ := progR_true (l := w) (v := (progR w).1) (by rw [← hw])
        refine ⟨by simp [h1], by rw [List.map_cons, h5, ← h2], fun n hn => ?_⟩
        rcases List.mem_cons.1 hn with rfl | hn
        · exact h4
        · exact h3 n hn
    · simp at h
theorem readAll_num : ∀ {ns : List Int}, (∀ n, n ∈ ns → in64 n) → readAll (ns.map numL) = some ns
  | [], _ => rfl
  | n :: ns, h => by
    rw [List.map_cons, readAll, progR_num (h n (by simp)), if_pos rfl, readAll_num (fun m hm => h m (by simp [hm]))]
theorem readAll_snoc {ws : List (List UInt8)} {ns : List Int} (h : readAll ws = some ns) (w : List UInt8) : readAll (ws ++ [w]) = if (progR w).2 = true then some (ns ++ [(progR w).1]) else none := by
  induction ws generalizing ns with
  | nil =>
    simp only [readAll, Option.some.injEq] at h
    subst h
    rfl
  | cons x r ih =>
    unfold readAll at h
    split at h
    · rename_i hw
      cases hr : readAll r with
      | none => rw [hr] at h; simp at h
      | some l =>
        rw [hr] at h
        simp only [Option.some.injEq] at h
        subst h
        rw [List.cons_append, readAll, if_pos hw, ih hr]
        by_cases hq : (progR w).2 = true
        · rw [if_pos hq, if_pos hq]; rfl
        · rw [if_neg hq, if_neg hq]
    · simp at h
theorem readAll_none {ws : List (List UInt8)} (r : List (List UInt8)) (h : readAll ws = none) : readAll (ws ++ r) = none := by
  induction ws with
  | nil => simp [readAll] at h
  | cons x s ih =>
    unfold readAll at h
    rw [List.cons_append, readAll]
    split
    · rename_i hw
      rw [if_pos hw] at h
      cases hr : readAll s with
      | none => rw [ih hr]
      | some l => rw [hr] at h; simp at h
    · rfl
/-- An act: its kind, Who, A, B, C, D. -/
def base6 (k : Int) : List Int := [k, 0, 0, 0, 0, 0]
def putF : List Int → List UInt8 → List Int → List Int
  | x, f :: fs, n :: ns => putF (x.set (cellN f) n) fs ns
  | x, _, _ => x
def getF (x : List Int) (fs : List UInt8) : List Int := fs.map fun f => x.getD (cellN f) 0
def zeroF : List Int → List UInt8 → List Int
  | x, f :: fs => zeroF (x.set (cellN f) 0) fs
  | x, [] => x
def kindOf (w : List UInt8) : Option Int :=
  if w = wordL 1 then some 1 else if w = wordL 2 then some 2 else if w = wordL 3 then some 3 else if w = wordL 4 then some 4 else
  if w = wordL 5 then some 5 else if w = wordL 6 then some 6 else if w = wordL 7 then some 7 else if w = wordL 8 then some 8 else none
theorem kind_cases {k : Int} (h1 : 1 ≤ k) (h8 : k ≤ 8) : k = 1 ∨ k = 2 ∨ k = 3 ∨ k = 4 ∨ k = 5 ∨ k = 6 ∨ k = 7 ∨ k = 8 := by omega
theorem kindOf_word {k : Int} (h1 : 1 ≤ k) (h8 : k ≤ 8) : kindOf (wordL k) = some k := by
  rcases kind_cases h1 h8 with rfl | rfl | rfl | rfl | rfl | rfl | rfl | rfl <;> decide
theorem kindOf_some {w : List UInt8} {k : Int} (h : kindOf w = some k) : w = wordL k ∧ 1 ≤ k ∧ k ≤ 8 := by
  unfold kindOf at h
  repeat' split at h
  all_goals first | (simp only [Option.some.injEq] at h; subst h; exact ⟨by assumption, by omega, by omega⟩) | (simp at h)
theorem kindOf_none {w : List UInt8} (h : ∀ k : Int, 1 ≤ k → k ≤ 8 → wordL k ≠ w) : kindOf w = none := by
  cases hk : kindOf w with
  | none => rfl
  | some k => exact absurd (kindOf_some hk).1.symm (h k (kindOf_some hk).2.1 (kindOf_some hk).2.2)
/-- The act of a line; none. -/
def parseK (k : Int) (r : List (List UInt8)) : Option (List Int) :=
  if r.length = (fldL k).length then match readAll r with | some ns => some (putF (base6 k) (fldL k) ns) | none => none else none
def parseW : List (List UInt8) → Option (List Int)
  | [] => none
  | w :: r => match kindOf w with | some k => parseK k r | none => none
def parseL (l : List UInt8) : Option (List Int) := parseW (splitL l)
/-- An act's line; none. -/
def lineK (k : Int) (ns : List Int) : List UInt8 := joinL (wordL k :: ns.map numL)
def lineL (x : List Int) : Option (List UInt8) :=
  if wordL (x.getD 0 0) = [] then none else if zeroF x (fldL (x.getD 0 0)) = base6 (x.getD 0 0) then some (lineK (x.getD 0 0) (getF x (fldL (x.getD 0 0)))) else none
theorem word_kind {k : Int} (h : wordL k ≠ []) : 1 ≤ k ∧ k ≤ 8 := by
  unfold wordL at h
  repeat' split at h
  all_goals first | omega | exact absurd rfl h
theorem word_blank (k : Int) : (32 : UInt8) ∉ wordL k := by
  unfold wordL
  repeat' split
  all_goals decide
theorem word_len (k : Int) : (wordL k).length ≤ 6 := by
  unfold wordL
  repeat' split
  all_goals decide
theorem num_blank (n : Int) : (32 : UInt8) ∉ numL n := by
  have hd : (32 : UInt8) ∉ digs n.natAbs := fun h => by have h2 := digs_isD _ _ h; unfold isD at h2; have h3 : (32 : UInt8).toNat = 32 := rfl; omega
  unfold numL
  split
  · intro h
    rcases List.mem_cons.1 h with h | h
    · cases h
    · exact hd h
  · exact hd
theorem split_line (k : Int) (ns : List Int) : splitL (lineK k ns) = wordL k :: ns.map numL := by
  unfold lineK
  apply split_join (by simp)
  intro w hw
  rcases List.mem_cons.1 hw with rfl | hw
  · exact word_blank k
  · obtain ⟨n, _, rfl⟩ := List.mem_map.1 hw
    exact num_blank n
theorem parse_line {x : List Int} {s : List UInt8} (hx : x.length = 6) (h64 : ∀ n, n ∈ x → in64 n) (h : lineL x = some s) : parseL s = some x := by
  unfold lineL at h
  split at h
  · simp at h
  rename_i hw
  obtain ⟨h1, h8⟩ := word_kind hw
  split at h
  · rename_i hz
    simp only [Option.some.injEq] at h
    subst h
    unfold parseL
    rw [split_line, parseW, kindOf_word h1 h8]
    simp only [parseK]
    have hg : ∀ n, n ∈ getF x (fldL (x.getD 0 0)) → in64 n := by
      intro n hn
      obtain ⟨f, _, rfl⟩ := List.mem_map.1 hn
      have hc : cellN f < x.length := by unfold cellN; repeat' split
                                         all_goals omega
      rw [List.getD_eq_getElem?_getD, List.getElem?_eq_getElem hc]
      exact h64 _ (List.getElem_mem hc)
    rw [if_pos (by simp [getF]), readAll_num hg]
    simp only [Option.some.injEq]
    match x, hx with
    | [k, a, b, c, d, e], _ =>
      simp only [List.getD_cons_zero] at *
      rcases kind_cases h1 h8 with rfl | rfl | rfl | rfl | rfl | rfl | rfl | rfl
      all_goals
        simp [fldL, zeroF, base6, cellN] at hz
        simp [fldL, putF, getF, base6, cellN, hz]
  · simp at h
/-- By how many numbers the document tells the fields. -/
def fldN (n : Nat) : List UInt8 := if n = 1 then [97] else if n = 2 then [119, 97] else if n = 3 then [119, 98, 97] else if n = 4 then [119, 98, 99, 100] else []
theorem fldN_len {k : Int} (h1 : 1 ≤ k) (h8 : k ≤ 8) : fldN (fldL k).length = fldL k := by
  rcases kind_cases h1 h8 with rfl | rfl | rfl | rfl | rfl | rfl | rfl | rfl <;> decide
def actN (k : Int) (ns : List Int) : List Int := putF (base6 k) (fldN ns.length) ns
def tryK (l : List UInt8) (ns : List Int) : Nat → Int → Option (List Int)
  | 0, _ => none
  | f + 1, k => if lineL (actN k ns) = some l then some (actN k ns) else tryK l ns f (k + 1)
def refP (l : List UInt8) : Option (List Int) :=
  if 200 < l.length then none else match readAll (splitL l).tail with | none => none | some ns => tryK l ns 8 1
theorem join_len (B : Nat) : ∀ (ws : List (List UInt8)), (∀ w, w ∈ ws → w.length ≤ B) → (joinL ws).length ≤ ws.length * (B + 1)
  | [], _ => by simp [joinL]
  | [w], h => by have := h w (by simp); simp [joinL]; omega
  | w :: x :: r, h => by
    rw [joinL_cons _ (by simp)]
    have h1 := h w (by simp)
    have h2 := join_len B (x :: r) (fun y hy => h y (by simp [hy]))
    simp only [List.length_append, List.length_cons, Nat.add_mul, Nat.one_mul] at *
    omega
theorem line_len (k : Int) {ns : List Int} (h : ∀ n, n ∈ ns → in64 n) (h4 : ns.length ≤ 4) : (lineK k ns).length ≤ 105 := by
  have h1 := join_len 20 (wordL k :: ns.map numL) (fun w hw => by
    rcases List.mem_cons.1 hw with rfl | hw
    · have := word_len k; omega
    · obtain ⟨n, hn, rfl⟩ := List.mem_map.1 hw
      exact numL_len (h n hn))
  simp only [List.length_cons, List.length_map] at h1
  unfold lineK
  omega
theorem fld_len (k : Int) : (fldL k).length ≤ 4 := by
  unfold fldL
  repeat' split
  all_goals decide
theorem line_act {k : Int} {ns : List Int} (h1 : 1 ≤ k) (h8 : k ≤ 8) (hl : ns.length = (fldL k).length) : lineL (putF (base6 k) (fldL k) ns) = some (lineK k ns) := by
  rcases kind_cases h1 h8 with rfl | rfl | rfl | rfl | rfl | rfl | rfl | rfl
  all_goals
    simp [fldL] at hl
    first
    | (match ns, hl with
       | [], _ => rfl)
    | (match ns, hl with
       | [a], _ => rfl)
    | (match ns, hl with
       | [a, b], _ => rfl)
    | (match ns, hl with
       | [a, b, c], _ => rfl)
    | (match ns, hl with
       | [a, b, c, d], _ => rfl)
theorem act_kind (k : Int) (ns : List Int) : (actN k ns).getD 0 0 = k := by
  unfold actN
  have : ∀ (fs : List UInt8) (ns x : List Int), (putF x fs ns).getD 0 0 = x.getD 0 0 := by
    intro fs
    induction fs with
    | nil => intro ns x; simp [putF]
    | cons f fs ih =>
      intro ns x
      cases ns with
      | nil => rfl
      | cons n ns =>
        rw [putF, ih]
        have hc : cellN f ≠ 0 := by unfold cellN; repeat' split
                                    all_goals omega
        simp only [List.getD_eq_getElem?_getD]
        rw [List.getElem?_set_ne hc]
  rw [this]
  rfl
theorem tryK_some {l : List UInt8} {ns : List Int} : ∀ {f : Nat} {k : Int} {x : List Int}, tryK l ns f k = some x → ∃ j, lineL (actN j ns) = some l ∧ x = actN j ns
  | 0, _, _, h => by simp [tryK] at h
  | f + 1, k, x, h => by
    unfold tryK at h
    split at h
    · rename_i hl
      simp only [Option.some.injEq] at h
      exact ⟨k, hl, h.symm⟩
    · exact tryK_some h
theorem line_split {x : List Int} {l : List UInt8} (h : lineL x = some l) : 1 ≤ x.getD 0 0 ∧ x.getD 0 0 ≤ 8 ∧ splitL l = wordL (x.getD 0 0) :: (getF x (fldL (x.getD 0 0))).map numL := by
  unfold lineL at h
  split at h
  · simp at h
  rename_i hw
  obtain ⟨h1, h8⟩ := word_kind hw
  split at h
  · simp only [Option.some.injEq] at h
    subst h
    exact ⟨h1, h8, split_line _ _⟩
  · simp at h
theorem tryK_hit {l : List UInt8} {ns : List Int} {k : Int} (h1 : 1 ≤ k) (h8 : k ≤ 8) (hl : lineL (actN k ns) = some l) : tryK l ns 8 1 = some (actN k ns) := by
  have hne : ∀ j, j ≠ k → ¬ lineL (actN j ns) = some l := by
    intro j hj h
    have h2 := line_split h
    have h3 := line_split hl
    rw [act_kind] at h2 h3
    have e : wordL j = wordL k := (List.cons.inj (h2.2.2.symm.trans h3.2.2)).1
    have e1 := kindOf_word h2.1 h2.2.1
    rw [e, kindOf_word h1 h8] at e1
    exact hj (Option.some.inj e1).symm
  have key : ∀ (f : Nat) (j : Int), j ≤ k → k < j + f → tryK l ns f j = some (actN k ns) := by
    intro f
    induction f with
    | zero => intro j h1 h2; omega
    | succ f ih =>
      intro j h2 h3
      unfold tryK
      by_cases hj : j = k
      · subst hj; rw [if_pos hl]
      · rw [if_neg (hne j hj)]
        exact ih (j + 1) (by omega) (by omega)
  exact key 8 1 h1 (by omega)
/-- Both sides tell the same act. -/
theorem parse_eq (l : List UInt8) : parseL l = refP l := by
  cases hp : parseL l with
  | some x =>
    unfold parseL at hp
    cases hs : splitL l with
    | nil => exact absurd hs (splitL_ne l)
    | cons w r =>
      rw [hs, parseW] at hp
      cases hk : kindOf w with
      | none => rw [hk] at hp; simp at hp
      | some k =>
        rw [hk] at hp
        simp only [parseK] at hp
        obtain ⟨rfl, h1, h8⟩ := kindOf_some hk
        split at hp
        · rename_i hlen
          cases hr : readAll r with
          | none => rw [hr] at hp; simp at hp
          | some ns =>
            rw [hr] at hp
            simp only [Option.some.injEq] at hp
            obtain ⟨hnl, hmap, h64⟩ := readAll_some hr
            have hl : l = lineK k ns := by rw [← join_split l, hs, hmap]; rfl
            have hx : actN k ns = x := by unfold actN; rw [hnl, hlen, fldN_len h1 h8, hp]
            unfold refP
            have h4 := fld_len k
            rw [if_neg (by have := line_len k h64 (by omega); rw [← hl] at this; omega), hs, List.tail_cons, hr]
            simp only
            rw [tryK_hit h1 h8 (by rw [hx, ← hp, line_act h1 h8 (by omega), hl]), hx]
        · simp at hp
  | none =>
    cases hf : refP l with
    | none => rfl
    | some x =>
      exfalso
      unfold refP at hf
      split at hf
      · simp at hf
      cases hr : readAll (splitL l).tail with
      | none => rw [hr] at hf; simp at hf
      | some ns =>
        rw [hr] at hf
        simp only at hf
        obtain ⟨j, hl, rfl⟩ := tryK_some hf
        have h2 := line_split hl
        rw [act_kind] at h2
        obtain ⟨h1, h8, hs⟩ := h2
        rw [hs, List.tail_cons] at hr
        obtain ⟨hnl, hmap, h64⟩ := readAll_some hr
        have e : parseL l ≠ none := by
          unfold parseL
          rw [hs, parseW, kindOf_word h1 h8]
          simp only [parseK]
          rw [if_pos (by simp [getF]), hr]
          simp
        exact e hp
end Go.Proofs.YtdfbofkdlgfblaaDoor
