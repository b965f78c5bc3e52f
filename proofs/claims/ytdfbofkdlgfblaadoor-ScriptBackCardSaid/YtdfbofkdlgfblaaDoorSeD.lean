/- The plain law of Parse: what the program makes of a text. -/
import Derived.Test.YtdfbofkdlgfblaaDoorSeB
namespace Go.Proofs.YtdfbofkdlgfblaaDoor
open Go Go.RowKit
abbrev PSt := List (List Int) × List (List Int)
def stepP (s : PSt) (l : List UInt8) : Except Int PSt :=
  if s.1.length < 4 then (match hlL s.1.length l with | some ns => .ok (s.1 ++ [ns], s.2) | none => .error 320)
  else match parseL l with | some x => if 4096 ≤ s.2.length then .error 2 else .ok (s.1, s.2 ++ [x]) | none => .error 320
def parseF : PSt → Nat → List (List UInt8) → Except (Int × Int) PSt
  | s, k, [] => if s.1.length < 4 then .error ((k : Int) + 1, 320) else .ok s
  | s, k, l :: r => match stepP s l with | .ok t => parseF t (k + 1) r | .error e => .error ((k : Int) + 1, e)
def parseP (text : List UInt8) : Except (Int × Int) PSt := if 65536 < text.length then .error (0, 2) else parseF ([], []) 0 (lineS text)
/-- Behind the lines pre the state is s. -/
def AtP (pre : List (List UInt8)) (s : PSt) : Prop := ∀ rest, parseF ([], []) 0 (pre ++ rest) = parseF s pre.length rest
theorem AtP.nil : AtP [] ([], []) := fun _ => rfl
theorem AtP.next {pre : List (List UInt8)} {s t : PSt} {l : List UInt8} (h : AtP pre s) (hs : stepP s l = .ok t) : AtP (pre ++ [l]) t := fun rest => by
  rw [List.append_assoc, h, List.singleton_append, parseF, hs, List.length_append, List.length_singleton]
theorem AtP.bad {pre : List (List UInt8)} {s : PSt} {l : List UInt8} {e : Int} (h : AtP pre s) (hs : stepP s l = .error e) (rest : List (List UInt8)) : parseF ([], []) 0 (pre ++ l :: rest) = .error ((pre.length : Int) + 1, e) := by
  rw [h, parseF, hs]
theorem AtP.done {pre : List (List UInt8)} {s : PSt} (h : AtP pre s) : parseF ([], []) 0 pre = if s.1.length < 4 then .error ((pre.length : Int) + 1, 320) else .ok s := by
  have h1 := h []
  rw [List.append_nil] at h1
  rw [h1, parseF]
def HdOk (hs : List (List Int)) : Prop := hs.length ≤ 4 ∧ ∀ (i : Nat) ns, hs[i]? = some ns → ns.length = headC i ∧ okN i ns = true ∧ ∀ n, n ∈ ns → in64 n
def XsOk (xs : List (List Int)) : Prop := xs.length ≤ 4096 ∧ ∀ x, x ∈ xs → x.length = 6 ∧ ∀ n, n ∈ x → in64 n
theorem hl_some {i : Nat} {l : List UInt8} {ns : List Int} (h : hlL i l = some ns) : ns.length = headC i ∧ okN i ns = true ∧ (∀ n, n ∈ ns → in64 n) ∧ splitL l = headW i :: ns.map numL := by
  unfold hlL at h
  cases hs : splitL l with
  | nil => exact absurd hs (splitL_ne l)
  | cons w r =>
    rw [hs, hlW] at h
    by_cases hw : w = headW i
    · rw [if_pos hw] at h
      by_cases hl : r.length = headC i
      · rw [if_pos hl] at h
        cases hr : readAll r with
        | none => rw [hr] at h; simp at h
        | some ms =>
          rw [hr] at h
          dsimp only at h
          by_cases ho : okN i ms = true
          · rw [if_pos ho] at h
            simp only [Option.some.injEq] at h
            subst h
            obtain ⟨h1, h2, h3⟩ := readAll_some hr
            exact ⟨by rw [h1, hl], ho, h3, by rw [hw, ← h2]⟩
          · rw [if_neg ho] at h; simp at h
      · rw [if_neg hl] at h; simp at h
    · rw [if_neg hw] at h; simp at h
theorem hl_acc {i : Nat} {l : List UInt8} {ns : List Int} (h : hlL i l = some ns) : l = accL (headW i) ns := by
  rw [accL_join, ← (hl_some h).2.2.2, join_split]
theorem headW_blank (i : Nat) : (32 : UInt8) ∉ headW i := by
  unfold headW
  repeat' split
  all_goals decide
theorem split_acc (i : Nat) (ns : List Int) : splitL (accL (headW i) ns) = headW i :: ns.map numL := by
  rw [accL_join]
  apply split_join (by simp)
  intro w hw
  rcases List.mem_cons.1 hw with rfl | hw
  · exact headW_blank i
  · obtain ⟨n, _, rfl⟩ := List.mem_map.1 hw
    exact num_blank n
theorem hl_of {i : Nat} {ns : List Int} (hl : ns.length = headC i) (ho : okN i ns = true) (h64 : ∀ n, n ∈ ns → in64 n) : hlL i (accL (headW i) ns) = some ns := by
  unfold hlL
  rw [split_acc, hlW, if_pos rfl, List.length_map, if_pos hl, readAll_num h64]
  dsimp only
  rw [if_pos ho]
theorem HdOk.snoc {hs : List (List Int)} {ns : List Int} {l : List UInt8} (h : HdOk hs) (hl : hs.length < 4) (hn : hlL hs.length l = some ns) : HdOk (hs ++ [ns]) := by
  refine ⟨by simp; omega, fun i ms hi => ?_⟩
  by_cases hlt : i < hs.length
  · rw [List.getElem?_append_left hlt] at hi
    exact h.2 i ms hi
  · have hi1 : i < (hs ++ [ns]).length := (List.getElem?_eq_some_iff.1 hi).1
    have hie : i = hs.length := by simp at hi1; omega
    subst hie
    rw [List.getElem?_append_right (Nat.le_refl _), Nat.sub_self] at hi
    simp only [List.getElem?_cons_zero, Option.some.injEq] at hi
    subst hi
    obtain ⟨h1, h2, h3, _⟩ := hl_some hn
    exact ⟨h1, h2, h3⟩
theorem base6_len (k : Int) : (base6 k).length = 6 := rfl
theorem parse_some {l : List UInt8} {x : List Int} (h : parseL l = some x) : ∃ k ns, 1 ≤ k ∧ k ≤ 8 ∧ ns.length = (fldL k).length ∧ (∀ n, n ∈ ns → in64 n) ∧ x = putF (base6 k) (fldL k) ns ∧ splitL l = wordL k :: ns.map numL := by
  unfold parseL at h
  cases hs : splitL l with
  | nil => exact absurd hs (splitL_ne l)
  | cons w r =>
    rw [hs, parseW] at h
    cases hk : kindOf w with
    | none => rw [hk] at h; simp at h
    | some k =>
      rw [hk] at h
      obtain ⟨hw, h1, h8⟩ := kindOf_some hk
      simp only [parseK] at h
      by_cases hl : r.length = (fldL k).length
      · rw [if_pos hl] at h
        cases hr : readAll r with
        | none => rw [hr] at h; simp at h
        | some ns =>
          rw [hr] at h
          simp only [Option.some.injEq] at h
          obtain ⟨h2, h3, h4⟩ := readAll_some hr
          exact ⟨k, ns, h1, h8, by rw [h2, hl], h4, h.symm, by rw [hw, ← h3]⟩
      · rw [if_neg hl] at h; simp at h
theorem parse_acc {l : List UInt8} {x : List Int} (h : parseL l = some x) : lineL x = some l := by
  obtain ⟨k, ns, h1, h8, hl, _, rfl, hs⟩ := parse_some h
  rw [line_act h1 h8 hl, lineK, ← hs, join_split]
theorem parse_in6 {l : List UInt8} {x : List Int} (h : parseL l = some x) : x.length = 6 ∧ ∀ n, n ∈ x → in64 n := by
  obtain ⟨k, ns, h1, h8, hl, h64, rfl, hs⟩ := parse_some h
  refine ⟨by rw [putF_len]; rfl, putF_in _ _ _ (fun n hn => ?_) h64⟩
  simp only [base6, List.mem_cons, List.not_mem_nil, or_false] at hn
  unfold in64
  omega
theorem XsOk.snoc {xs : List (List Int)} {x : List Int} {l : List UInt8} (h : XsOk xs) (hl : xs.length < 4096) (hx : parseL l = some x) : XsOk (xs ++ [x]) := by
  refine ⟨by simp; omega, fun y hy => ?_⟩
  rcases List.mem_append.1 hy with hy | hy
  · exact h.2 y hy
  · simp only [List.mem_singleton] at hy
    subst hy
    exact parse_in6 hx
theorem num_ten (n : Int) : (10 : UInt8) ∉ numL n := by
  have hd : (10 : UInt8) ∉ digs n.natAbs := fun h => by have h2 := digs_isD _ _ h; unfold isD at h2; have h3 : (10 : UInt8).toNat = 10 := rfl; omega
  unfold numL
  split
  · intro h
    rcases List.mem_cons.1 h with h | h
    · cases h
    · exact hd h
  · exact hd
theorem join_ten : ∀ {ws : List (List UInt8)}, (∀ w, w ∈ ws → (10 : UInt8) ∉ w) → (10 : UInt8) ∉ joinL ws
  | [], _ => by simp [joinL]
  | [w], h => by simpa [joinL] using h w (by simp)
  | w :: v :: r, h => by
    rw [joinL_cons w (by simp)]
    intro hm
    rcases List.mem_append.1 hm with hm | hm
    · exact h w (by simp) hm
    · rcases List.mem_cons.1 hm with hm | hm
      · cases hm
      · exact join_ten (fun u hu => h u (by simp [hu])) hm
theorem words_ten {l w : List UInt8} {ns : List Int} (h : splitL l = w :: ns.map numL) (hw : (10 : UInt8) ∉ w) : (10 : UInt8) ∉ l := by
  rw [← join_split l, h]
  refine join_ten fun u hu => ?_
  rcases List.mem_cons.1 hu with rfl | hu
  · exact hw
  · obtain ⟨n, _, rfl⟩ := List.mem_map.1 hu
    exact num_ten n
theorem hl_ten {i : Nat} {l : List UInt8} (h : (10 : UInt8) ∈ l) : hlL i l = none := by
  cases hn : hlL i l with
  | none => rfl
  | some ns =>
    refine absurd h (words_ten (hl_some hn).2.2.2 ?_)
    unfold headW
    repeat' split
    all_goals decide
theorem parse_ten {l : List UInt8} (h : (10 : UInt8) ∈ l) : parseL l = none := by
  cases hn : parseL l with
  | none => rfl
  | some x =>
    obtain ⟨k, ns, h1, h8, hl, h64, rfl, hs⟩ := parse_some hn
    refine absurd h (words_ten hs ?_)
    rcases kind_cases h1 h8 with rfl | rfl | rfl | rfl | rfl | rfl | rfl | rfl <;> decide
/-- A line that has no end is none. -/
theorem step_ten (s : PSt) {l : List UInt8} (h : (10 : UInt8) ∈ l) : stepP s l = .error 320 := by
  unfold stepP
  rw [hl_ten h, parse_ten h]
  split <;> rfl
/-- The config's cells, of the first lines' numbers. -/
def gN (hs : List (List Int)) (i j : Nat) : Int := (hs.getD i []).getD j 0
def cfOf (hs : List (List Int)) : List Value := cfL (gN hs 3 0) (gN hs 3 1) (gN hs 0 0) 0 (gN hs 0 1) (gN hs 0 2) (gN hs 1 0) (gN hs 1 1) (gN hs 1 2) (gN hs 2 0) (gN hs 2 1)
end Go.Proofs.YtdfbofkdlgfblaaDoor
