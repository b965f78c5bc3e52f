/- Scripts as texts: the plain law; strings.Builder in texts. -/
import Derived.Test.YtdfbofkdlgfblaaDoorScY
import Derived.Test.YtdfbofkdlgfblaaDoorScS
namespace Go.Proofs.YtdfbofkdlgfblaaDoor
open Go Go.RowKit
/-- The lines of acts, behind a text; none: an act has no line. -/
def actsT : List UInt8 → List (List Int) → Option (List UInt8)
  | acc, [] => some acc
  | acc, x :: r => match lineL x with | some s => actsT (acc ++ (s ++ [10])) r | none => none
theorem actsT_snoc : ∀ (xs : List (List Int)) (acc : List UInt8) (x : List Int), actsT acc (xs ++ [x]) = match actsT acc xs with | some a => (match lineL x with | some s => some (a ++ (s ++ [10])) | none => none) | none => none
  | [], acc, x => rfl
  | y :: xs, acc, x => by
    rw [List.cons_append, actsT, actsT]
    cases lineL y with
    | none => rfl
    | some s => exact actsT_snoc xs _ x
theorem actsT_bad {xs : List (List Int)} {acc a : List UInt8} {x : List Int} (h : actsT acc xs = some a) (hL : lineL x = none) : actsT acc (xs ++ [x]) = none := by
  rw [actsT_snoc, h]
  simp only [hL]
theorem actsT_more {xs : List (List Int)} {acc a s : List UInt8} {x : List Int} (h : actsT acc xs = some a) (hL : lineL x = some s) : actsT acc (xs ++ [x]) = some (a ++ (s ++ [10])) := by
  rw [actsT_snoc, h]
  simp only [hL]
theorem actsT_none : ∀ (xs r : List (List Int)) (acc : List UInt8), actsT acc xs = none → actsT acc (xs ++ r) = none
  | [], r, acc, h => by simp [actsT] at h
  | y :: xs, r, acc, h => by
    rw [List.cons_append, actsT]
    rw [actsT] at h
    cases hy : lineL y with
    | none => rfl
    | some s => rw [hy] at h; exact actsT_none xs r _ h
def headW (i : Nat) : List UInt8 := if i = 0 then [103, 97, 109, 101] else if i = 1 then [115, 101, 110, 100] else if i = 2 then [114, 97, 116, 101] else [109, 101, 101, 116]
def headN (ses tok seed del ahe siz age mos rat bur : Int) (i : Nat) : List Int := if i = 0 then [seed, del, ahe] else if i = 1 then [siz, age, mos] else if i = 2 then [rat, bur] else [ses, tok]
/-- Lines, each with its end. -/
def headP (L : Nat → List UInt8) : Nat → List UInt8
  | 0 => []
  | i + 1 => headP L i ++ (L i ++ [10])
theorem headP_len (L : Nat → List UInt8) (h : ∀ i, (L i).length ≤ 100) : ∀ i, (headP L i).length ≤ 101 * i
  | 0 => by simp [headP]
  | i + 1 => by
    have := headP_len L h i
    have := h i
    rw [headP, List.length_append, List.length_append, List.length_singleton]
    omega
/-- The first lines. -/
def headL (ses tok seed del ahe siz age mos rat bur : Int) (i : Nat) : List UInt8 := accL (headW i) (headN ses tok seed del ahe siz age mos rat bur i)
def headT (ses tok seed del ahe siz age mos rat bur : Int) : List UInt8 := headP (headL ses tok seed del ahe siz age mos rat bur) 4
theorem headL_len {ses tok seed del ahe siz age mos rat bur : Int} (h0 : in64 ses) (h1 : in64 tok) (h2 : in64 seed) (h4 : in64 del) (h5 : in64 ahe) (h6 : in64 siz) (h7 : in64 age) (h8 : in64 mos) (h9 : in64 rat) (h10 : in64 bur) (i : Nat) : (headL ses tok seed del ahe siz age mos rat bur i).length ≤ 100 := by
  have hn : ∀ n, n ∈ headN ses tok seed del ahe siz age mos rat bur i → in64 n := by
    intro n hn
    unfold headN at hn
    repeat' split at hn
    all_goals
      simp only [List.mem_cons, List.not_mem_nil, or_false] at hn
      rcases hn with rfl | rfl | rfl <;> assumption
  have h := accL_len (headW i) hn
  have hw : (headW i).length = 4 := by
    unfold headW
    repeat' split
    all_goals rfl
  have hl : (headN ses tok seed del ahe siz age mos rat bur i).length ≤ 3 := by
    unfold headN
    repeat' split
    all_goals simp
  unfold headL
  omega
/-- What Print answers. -/
def printS : Option (List UInt8) → List UInt8 × Int
  | none => ([], 320)
  | some s => if 65536 < s.length then ([], 2) else (s, 0)
def printO (loc : Int) (h : List UInt8) (xs : List (List Int)) : List UInt8 × Int :=
  if loc ≠ 0 then ([], 320) else if 4096 < xs.length then ([], 2) else printS (actsT h xs)
/-- A list of acts, as it lies. -/
structure AcR (w : World) (a : Option Addr) (xs : List (List Int)) : Prop where
  at_ : ∀ (i : Nat) (x : List Int), xs[i]? = some x → ∃ g o, a = some ⟨g, o, none⟩ ∧ g < w.heap.size ∧ w.rangeAt g (o + i * 6) (ints x)
  six : ∀ x, x ∈ xs → x.length = 6 ∧ ∀ n, n ∈ x → in64 n
theorem AcR.kept {w w' : World} {a : Option Addr} {xs : List (List Int)} (h : AcR w a xs) (hk : Kept [] w w') : AcR w' a xs := by
  refine ⟨fun i x hx => ?_, h.six⟩
  obtain ⟨g, o, ha, hg, hr⟩ := h.at_ i x hx
  exact ⟨g, o, ha, Nat.lt_of_lt_of_le hg hk.size, hk.range hr (by simp)⟩
theorem Kept.below {w0 w w' : World} {B : Nat} (h : Kept [] w0 w) (hb : Below B w w') (hB : w0.heap.size ≤ B) : Kept [] w0 w' :=
  ⟨hb.os.trans h.os, hb.tape.trans h.tape, hb.output.trans h.output, Nat.le_trans h.size hb.size, fun k hk hn => by rw [hb.block k (by omega)]; exact h.block k hk hn⟩
theorem below_blk {w w' : World} {B b : Nat} {xs : List Value} {T : TypeId} (hb : Below B w w') (h : Blk w b xs T) (hB : b < B) : Blk w' b xs T := by
  unfold Blk at *
  rw [hb.block b hB]
  exact h
/-- A builder at b that holds the text l. -/
def Bl (b : Nat) (l : List UInt8) (w : World) : Prop := Lib.IsBuilder 81 5 b b (Lib.byteCells l) w
theorem Bl.lt {b : Nat} {l : List UInt8} {w : World} (h : Bl b l w) : b < w.heap.size := by
  rcases h with h | h <;> exact h.lt
theorem Bl.new (w : World) : Bl w.heap.size [] (w.alloc (.cells #[.pointer none, .slice none 0 0] 81)) :=
  .inl ⟨Nat.le_refl _, _, by show (w.heap.push _)[w.heap.size]? = _; simp, World.ownsRow_nil _ _ _ _, by simp [Value.ownBlock]⟩
theorem Bl.kept {b : Nat} {l : List UInt8} {w w' : World} (h : Bl b l w) (hk : Kept [] w w') : Bl b l w' := by
  rcases h with ⟨hB, v, hb, ho, hn⟩ | ⟨hB, v, hb, ho, hn⟩
  · exact .inl ⟨hB, v, by rw [hk.block b (lt_of_block hb) (by simp)]; exact hb, own_kept0 ho hk, hn⟩
  · exact .inr ⟨hB, v, by rw [hk.block b (lt_of_block hb) (by simp)]; exact hb, own_kept0 ho hk, hn⟩
theorem wr_any (b : Nat) (l s : List UInt8) (w : World) (h : Bl b l w) (hlen : l.length + s.length ≤ 140737488355328) :
    Calls Tryd.prog 35 #[.pointer (some ⟨b, 0, none⟩), txt s] w fun e w' => ∃ v, e = .returned v ∧ Bl b (l ++ s) w' ∧ Below b w w' ∧ KT w w' := by
  refine (write_any b b (Lib.byteCells l) ⟨s.toArray⟩ w h (by rw [Lib.byteCells_length, txt_size]; exact hlen) (Nat.le_of_lt h.lt)).mono ?_
  rintro e w' ⟨rfl, h1, h2, h3⟩
  refine ⟨_, rfl, .inr ?_, h2, h3⟩
  have e : Lib.byteCells (l ++ s) = Lib.byteCells l ++ Lib.strCells ⟨s.toArray⟩ := by simp [Lib.byteCells, Lib.strCells]
  rw [e]
  exact h1
theorem len_any (b : Nat) (l : List UInt8) (w : World) (h : Bl b l w) :
    Calls Tryd.prog 37 #[.pointer (some ⟨b, 0, none⟩)] w fun e w' => e = .returned (.int .i64 (l.length : Int)) ∧ w' = w := by
  have h1 := Builder_Len b b (Lib.byteCells l) w h
  rw [Lib.byteCells_length] at h1
  exact h1
theorem str_any (b : Nat) (l : List UInt8) (w : World) (h : Bl b l w) :
    Calls Tryd.prog 38 #[.pointer (some ⟨b, 0, none⟩)] w fun e w' => e = .returned (txt l) ∧ Below b w w' := Builder_String_any b b l w h (Nat.le_of_lt h.lt)
end Go.Proofs.YtdfbofkdlgfblaaDoor
