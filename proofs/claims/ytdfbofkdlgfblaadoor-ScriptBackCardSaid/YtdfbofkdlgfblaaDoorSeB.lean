/- The lines of a text, and the program's iterator over them. -/
import Derived.Test.YtdfbofkdlgfblaaDoorSeA
import Derived.Test.YtdfbofkdlgfblaaDoorSeqE
import Derived.Laws.Strings3
import Derived.Stop.RegionWithIn
namespace Go.Proofs.YtdfbofkdlgfblaaDoor
open Go Go.RowKit Go.Shelf
attribute [local go_sem] Oper.semAt_some
/-- A text's lines, as the program sees them: the last one without an end comes with one letter more. -/
def lineS : List UInt8 → List (List UInt8)
  | [] => []
  | c :: r => if c = 10 then [] :: lineS r else match lineS r with | [] => [[c, 10]] | h :: t => (c :: h) :: t
theorem lineS_line : ∀ {l : List UInt8}, (10 : UInt8) ∉ l → ∀ r, lineS (l ++ 10 :: r) = l :: lineS r
  | [], _, r => by simp [lineS]
  | c :: l, h, r => by
    rw [List.cons_append, lineS, if_neg (fun e => h (by simp [e])), lineS_line (fun e => h (by simp [e])) r]
theorem lineS_last : ∀ {l : List UInt8}, (10 : UInt8) ∉ l → l ≠ [] → lineS l = [l ++ [10]]
  | [], _, h => absurd rfl h
  | c :: l, h, _ => by
    rw [lineS, if_neg (fun e => h (by simp [e]))]
    by_cases hl : l = []
    · subst hl
      simp [lineS]
    · rw [lineS_last (fun e => h (by simp [e])) hl]
      simp
theorem idx_cases : ∀ r : List UInt8, (Lib.indexByte r 10 = -1 ∧ (10 : UInt8) ∉ r) ∨ ∃ l t, r = l ++ 10 :: t ∧ (10 : UInt8) ∉ l ∧ Lib.indexByte r 10 = (l.length : Int)
  | [] => .inl ⟨rfl, by simp⟩
  | b :: r => by
    by_cases hb : b = 10
    · subst hb
      exact .inr ⟨[], r, rfl, by simp, by simp [Lib.indexByte]⟩
    · have hbb : (b == 10) = false := by simpa using hb
      rcases idx_cases r with ⟨h1, h2⟩ | ⟨l, t, rfl, h2, h3⟩
      · refine .inl ⟨?_, ?_⟩
        · simp [Lib.indexByte, hbb, h1]
        · simp only [List.mem_cons, not_or]
          exact ⟨fun e => hb e.symm, h2⟩
      · refine .inr ⟨b :: l, t, rfl, ?_, ?_⟩
        · simp only [List.mem_cons, not_or]
          exact ⟨fun e => hb e.symm, h2⟩
        · have hne : (Lib.indexByte (l ++ 10 :: t) 10 == -1) = false := by rw [h3]; simp
          rw [Lib.indexByte, hbb, hne, h3]
          simp
/-- .. with their numbers. -/
def numT : Nat → List (List UInt8) → List (Int × List UInt8)
  | _, [] => []
  | k, x :: r => ((k : Int) + 1, x) :: numT (k + 1) r
theorem numT_len : ∀ (k : Nat) (l : List (List UInt8)), (numT k l).length = l.length
  | _, [] => rfl
  | k, x :: r => by rw [numT, List.length_cons, numT_len, List.length_cons]
theorem lineS_len : ∀ l : List UInt8, (lineS l).length ≤ l.length
  | [] => Nat.le_refl _
  | c :: r => by
    have := lineS_len r
    rw [lineS]
    split
    · simp; omega
    · cases h : lineS r with
      | nil => simp
      | cons a b => rw [h] at this; simpa using Nat.le_succ_of_le this
theorem slice_to {l t : List UInt8} (X : World) : (Instr.slice 9 (txt (l ++ 10 :: t)) none (some (.int .i64 (l.length : Int))) none).run Tryd.prog X = .ok (txt l) X := by
  rw [run_slice_string_to_if (P := Tryd.prog) X 9 ⟨(l ++ 10 :: t).toArray⟩ .i64 (l.length : Int) Tryd.underlying9, if_pos ⟨by omega, by rw [txt_size]; simp; omega⟩, ByteArray.extract_mk, Int.toNat_natCast]
  simp [txt]
theorem slice_from {l t : List UInt8} (X : World) : (Instr.slice 9 (txt (l ++ 10 :: t)) (some (.int .i64 ((l.length : Int) + 1))) none none).run Tryd.prog X = .ok (txt t) X := by
  rw [run_slice_string_from_if (P := Tryd.prog) X 9 ⟨(l ++ 10 :: t).toArray⟩ .i64 ((l.length : Int) + 1) Tryd.underlying9, if_pos ⟨by omega, by rw [txt_size]; simp; omega⟩, ByteArray.extract_mk, txt_size,
    show ((l.length : Int) + 1).toNat = l.length + 1 by omega]
  simp [txt]
  exact List.take_of_length_le (by omega)
set_option maxRecDepth 100000 in
set_option maxHeartbeats 3200000 in
theorem lines_any (l : List UInt8) (w : World) :
    Calls Tryd.prog 40 #[txt l] w fun e w' => e = .returned (.func (.func 48) #[] #[.pointer (some ⟨w.heap.size, 0, none⟩)]) ∧ w' = w.alloc (.cells #[txt l] 9) := by
  go_enter Tryd.func40, Tryd.ntmps40
  go_wp2
  go_ret
  exact ⟨rfl, rfl⟩
/-- The iterator's box stays, whatever a round does. -/
def KpB (Bt : Nat) (A C : World) : Prop := C.heap[Bt]? = A.heap[Bt]? ∧ A.heap.size ≤ C.heap.size
theorem KpB.trans {Bt : Nat} {A B C : World} (h : KpB Bt A B) (h2 : KpB Bt B C) : KpB Bt A C := ⟨h2.1.trans h.1, Nat.le_trans h.2 h2.2⟩
abbrev encT (x : Int × List UInt8) : Array Value := #[.int .i64 x.1, txt x.2]
set_option maxRecDepth 100000 in
set_option maxHeartbeats 8000000 in
theorem lines_stops (n Bt : Nat) (text : List UInt8) (w : World) (hB : Blk w Bt [txt text] 9) (hlen : text.length ≤ 1000000) (hn : 1 ≤ n) :
    SeqE Fence.wide n Tryd.prog 48 #[.pointer (some ⟨Bt, 0, none⟩)] encT (KpB Bt) (fun xs => xs = numT 0 (lineS text)) (fun pre => pre <+: numT 0 (lineS text)) (numT 0 (lineS text)).length Bt w := fun k J Jx W hW hJ hJx hY h0 => by
  have hkW := Kept.ofBelow hW
  have HB := hx (hkW.blk hB (by simp))
  have HJ := hx hJ
  have HY := hx hY
  have H0 := hx h0
  have HLT := hx hlen
  have HN := hx (lineS_len text)
  clear hW hkW hB hJ hY h0 hJx hlen
  generalize hls : lineS text = ls at *
  have HLS := hx hls
  clear hls
  refine callsIn_of_wp Tryd.func48 rfl trivial ?_ rfl
  simp only [Tryd.ntmps48, List.size_toArray, List.length_cons, List.length_nil, Nat.reduceAdd, Nat.reduceSub, Array.replicate_succ, Array.replicate_zero, List.push_toArray, List.append_toArray, List.nil_append, List.cons_append]
  gi_wp2
  gi_loopw [3] (fun iv wr => ∃ (pre : List (Int × List UInt8)) (r : List UInt8), numT 0 ls = pre ++ numT pre.length (lineS r) ∧ iv = .int .i64 (pre.length : Int) ∧ r.length ≤ text.length ∧ J pre wr ∧ Blk wr Bt [txt r] 9) (fun iv _ => ls.length - (intOf iv).toNat)
  case atStart => exact ⟨[], text, by rw [HLS.out]; rfl, rfl, Nat.le_refl _, H0.out, HB.out⟩
  case round =>
    obtain ⟨pre, r, hl, rfl, hrt, hj, hb⟩ := hrel
    have HLL := hx hl
    have HJJ := hx hj
    have HBB := hx hb
    have c0 := hb.cell (i := 0) rfl
    have hpl : pre.length ≤ ls.length := by
      have := congrArg List.length hl
      rw [numT_len, List.length_append] at this
      omega
    have hp9 : pre.length ≤ 1000000 := by have := HN.out; have := HLT.out; omega
    have HI := hx (strings_IndexByte ⟨r.toArray⟩ 10 wr)
    clear hl hj hb
    by_cases hr : r = []
    · subst hr
      have hS := hx (show pre = numT 0 ls by have h := HLL.out; rw [lineS, numT, List.append_nil] at h; exact h.symm)
      clear HI
      gi_wp2
      go_end0
      exact ⟨⟨_, rfl⟩, .inl ⟨pre, hS.out, HJJ.out⟩⟩
    · have hpos : (0 : Int) < (r.length : Int) := by have := List.length_pos_iff.2 hr; omega
      have hlt : pre.length < (numT 0 ls).length := by
        rw [HLL.out, List.length_append, numT_len]
        have : 0 < (lineS r).length := by
          cases r with
          | nil => exact absurd rfl hr
          | cons c t =>
            rw [lineS]
            split
            · simp
            · split <;> simp
        omega
      rcases idx_cases r with ⟨h1, h2⟩ | ⟨l, t, rfl, h2, h3⟩
      · have hl2 : numT 0 ls = pre ++ [((pre.length : Int) + 1, r ++ [10])] := by rw [HLL.out, lineS_last h2 hr]; rfl
        have hS := hx hl2
        rw [show (((10 : Int)).toNat.toUInt8) = 10 from rfl, show (⟨r.toArray⟩ : ByteArray).data.toList = r from rfl, h1] at HI
        obtain ⟨fn, tmps, assign, body, hy, hR⟩ := HY.out pre ((pre.length : Int) + 1, r ++ [10]) wr HJJ.out hlt ⟨[], by rw [hl2, List.append_nil]⟩
        dsimp only [encT] at hy
        rw [show txt (r ++ [10]) = .string (⟨r.toArray⟩ ++ ⟨#[10]⟩) by rw [show ({ data := #[10] } : ByteArray) = ⟨[10].toArray⟩ from rfl, txt_add]] at hy
        have hrl : r.length ≤ 1000000 := by have := HLT.out; omega
        clear hl2 hlt h1 h2 hr hrt
        gi_wp2
        refine ⟨trivial, (callsIn_wide.2 HI.out).mono ?_⟩
        rintro e w1 ⟨rfl, rfl⟩
        gi_wp2
        refine hR.mono ?_
        rintro e W3 (⟨rfl, hJ3, hk3⟩ | ⟨rfl, hx3⟩)
        · gi_wp2
          refine bodyPost_ret (results_none rfl _ _ _) rfl ?_
          exact ⟨⟨_, rfl⟩, .inl ⟨_, hS.out.symm, hJ3⟩⟩
        · gi_wp2
          refine bodyPost_ret (results_none rfl _ _ _) rfl ?_
          exact ⟨⟨_, rfl⟩, .inr ⟨_, ⟨[], by rw [hS.out, List.append_nil]⟩, hx3⟩⟩
      · have hl2 : numT 0 ls = (pre ++ [((pre.length : Int) + 1, l)]) ++ numT (pre ++ [((pre.length : Int) + 1, l)]).length (lineS t) := by rw [HLL.out, lineS_line h2, numT]; simp
        have hS := hx hl2
        rw [show (((10 : Int)).toNat.toUInt8) = 10 from rfl, show (⟨(l ++ 10 :: t).toArray⟩ : ByteArray).data.toList = l ++ 10 :: t from rfl, h3] at HI
        obtain ⟨fn, tmps, assign, body, hy, hR⟩ := HY.out pre ((pre.length : Int) + 1, l) wr HJJ.out hlt ⟨_, hl2.symm⟩
        dsimp only [encT] at hy
        have s1 : ∀ X, (Instr.slice 9 (txt (l ++ 10 :: t)) none (some (.int .i64 (l.length : Int))) none).run Tryd.prog X = .ok (txt l) X := fun X => slice_to X
        have s2 : ∀ X, (Instr.slice 9 (txt (l ++ 10 :: t)) (some (.int .i64 ((l.length : Int) + 1))) none none).run Tryd.prog X = .ok (txt t) X := fun X => slice_from X
        have hrl : l.length ≤ 1000000 := by have := HLT.out; simp at hrt; omega
        have HTL := hx (show t.length ≤ text.length by simp at hrt; omega)
        have HMS := hx hpl
        have HLN := hx (show (((pre ++ [((pre.length : Int) + 1, l)]).length : Nat) : Int) = (pre.length : Int) + 1 by simp)
        have HM2 := hx (show pre.length < ls.length by rw [numT_len] at hlt; exact hlt)
        clear hl2 hlt h2 hr hrt h3
        gi_wp2
        refine ⟨trivial, (callsIn_wide.2 HI.out).mono ?_⟩
        rintro e w1 ⟨rfl, rfl⟩
        gi_wp2
        refine hR.mono ?_
        rintro e W3 (⟨rfl, hJ3, hk3⟩ | ⟨rfl, hx3⟩)
        · have HB3 := hx (show Blk W3 Bt [txt (l ++ 10 :: t)] 9 by have h := HBB.out; unfold Blk at *; rw [hk3.1]; exact h)
          have c3 := HB3.out.cell (i := 0) rfl
          have f3 := HB3.out.free 0
          have HJ3 := hx hJ3
          clear hJ3 hk3 c0
          gi_wp2
          go_roundw
          case rel => exact ⟨pre ++ [((pre.length : Int) + 1, l)], t, hS.out, by rw [HLN.out], HTL.out, HJ.out _ _ _ HJ3.out (KeptE.of ((Kept.refl [Bt] W3).setCell (.inl (by simp)) _)), HB3.out.set 0 _⟩
          case measure =>
            simp only [intOf]
            have := HM2.out
            omega
        · gi_wp2
          refine bodyPost_ret (results_none rfl _ _ _) rfl ?_
          exact ⟨⟨_, rfl⟩, .inr ⟨_, ⟨_, hS.out.symm⟩, hx3⟩⟩
end Go.Proofs.YtdfbofkdlgfblaaDoor
