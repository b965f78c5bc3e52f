import Derived.Test.YtpedenaaiinakaaWireL
import Derived.Test.YtpedenaaiinakaaWireM
import Derived.Test.YtpedenaaiinakaaOpen
import Derived.Deep.DeepCutAuto
namespace Go.Proofs.Ytpedenaaiinakaa
open Go Go.RowKit
theorem exec_Q (w : World) (ev : Operand → Value) (dst : Option Tmp) (x : Operand) (t2 : TypeId) (pos : String) (af : Array Edge) (g : Option (Nat × Bool)) (h : goodPtr w 2 (ev x) = true) :
    (execOp ev { dst := dst, op := .load 39 x, type := t2, pos := pos, after := af, guard := g }).run Try.prog w = .ok (.value (.agg (rowAt w (ev x)))) w :=
  exec_row 39 2 _ Try.underlying39 rfl infoQ ev _ x rfl h
attribute [local go_sem ↓] exec_Q
attribute [local go_sem] goodPtr_at rowAt_at
theorem qA_lt (a : Int) : qA a < 65536 := by unfold qA; omega
theorem qL_lt (l : Int) : qL l < 65536 := by unfold qL clampI; omega
theorem qB_take (a l : Int) : beg ((qB a l).take 2) = qA a := by
  unfold qB
  rw [List.take_left' (byts_len _ _), beg_byts]
  exact Nat.mod_eq_of_lt (qA_lt a)
theorem qB_drop (a l : Int) : beg ((qB a l).drop 2) = qL l := by
  unfold qB
  rw [List.drop_left' (byts_len _ _), beg_byts]
  exact Nat.mod_eq_of_lt (qL_lt l)
theorem qB_len (a l : Int) : (qB a l).length = 4 := by unfold qB; simp [byts_len]
theorem clamp_bd (lo hi x : Int) (h : lo ≤ hi) : lo ≤ clampI lo hi x ∧ clampI lo hi x ≤ hi := by unfold clampI; omega
theorem i16_q (a : Int) : IntKind.i16.wrap (qA a : Int) = clampI (-32768) 32767 a := by
  have h := clamp_bd (-32768) 32767 a (by omega)
  unfold qA
  simp only [IntKind.wrap, IntKind.bits, IntKind.signed]
  simp
  omega
theorem i16_bd (x : Nat) (h : x < 65536) : -32768 ≤ IntKind.i16.wrap (x : Int) ∧ IntKind.i16.wrap (x : Int) ≤ 32767 ∧ IntKind.i16.wrap (x : Int) % 65536 = x := by
  simp only [IntKind.wrap, IntKind.bits, IntKind.signed]
  simp
  omega
theorem clamp_in (lo hi x : Int) (h1 : lo ≤ x) (h2 : x ≤ hi) : clampI lo hi x = x := by unfold clampI; omega
theorem qB_back (l : List UInt8) (h : l.length = 4) : qB (IntKind.i16.wrap (beg (l.take 2) : Nat)) (beg (l.drop 2) : Nat) = l := by
  have h1 : beg (l.take 2) < 65536 := by have := beg_lt (l.take 2); rw [List.length_take, h] at this; simpa using this
  have h2 : beg (l.drop 2) < 65536 := by have := beg_lt (l.drop 2); rw [List.length_drop, h] at this; simpa using this
  obtain ⟨b1, b2, b3⟩ := i16_bd _ h1
  have e1 : qA (IntKind.i16.wrap (beg (l.take 2) : Nat)) = beg (l.take 2) := by
    unfold qA
    rw [clamp_in _ _ _ b1 b2, b3]; simp
  have e2 : qL (beg (l.drop 2) : Nat) = beg (l.drop 2) := by
    unfold qL
    rw [clamp_in _ _ _ (by omega) (by omega)]; simp
  unfold qB
  rw [e1, e2, byts_beg 2 _ (by rw [List.length_take, h]; rfl), byts_beg 2 _ (by rw [List.length_drop, h])]
  exact List.take_append_drop 2 l
theorem clampA (a : Int) : min (max a (-32768)) 32767 = clampI (-32768) 32767 a := by unfold clampI; omega
theorem clampL (l : Int) : min (max l 0) 65535 = (qL l : Int) := by unfold qL clampI; omega
theorem bytesI (x : Nat) (X N : Int) (w : World) (hX : X = (x : Int)) (hN : N = 2) (hx : x < 18446744073709551616) :
    Calls Try.prog 18 #[.int .u64 X, .int .i64 N] w fun e w' => e = .returned (.slice (some ⟨w.heap.size, 0, none⟩) 2 2) ∧ OwnB w' w.heap.size (.slice (some ⟨w.heap.size, 0, none⟩) 2 2) 2 (byts x 2) ∧ Bts w' (some ⟨w.heap.size, 0, none⟩) 2 2 (byts x 2) ∧ Kept [] w w' := by
  subst hX hN
  refine (bytes_any x 2 w hx (by omega)).mono ?_
  rintro e w' ⟨rfl, hb, hk⟩
  have hl : ((byts x 2).map bv).length = 2 := by rw [List.length_map, byts_len]
  have ho := own_blk hb (Nat.le_refl _) (by rw [hl]; unfold maxLen; omega)
  rw [hl] at ho
  have hb2 := bts_blk (rest := []) (cap := 2) (by simpa using hb) (by rw [byts_len]; omega) (by unfold maxLen; omega)
  rw [byts_len] at hb2
  exact ⟨rfl, ho, hb2, hk⟩
set_option maxRecDepth 100000 in
set_option maxHeartbeats 3200000 in
theorem law_tells (qa ql : Int) (a : Option Addr) (n c : Nat) (l : List UInt8) (w : World) (hl : Bts w a n c l) :
    Calls Try.prog 4 #[.agg #[.int .i64 qa, .int .i64 ql], .slice a n c] w fun e w' => e = .returned (.bool true) ∧ Kept [] w w' := by
  have hb := Blk.new w [.int .i64 qa, .int .i64 ql] 39
  have hk0 : Kept [] w (w.alloc (.cells (#[.int .i64 qa, .int .i64 ql] : Array Value) 39)) := (Kept.refl _ _).alloc _
  have hb' := Lib.hid hb
  have hk0' := Lib.hid hk0
  have hl' := Lib.hid hl
  clear hb hk0 hl
  go_enter Try.func4, Try.ntmps4
  go_wp2_with fail
  refine (wawake_any _).mono ?_
  rintro e w1 ⟨rfl, hk1⟩
  have hk01 := hk0'.out.trans0 hk1
  have hb1 := hk1.blk hb'.out (by simp)
  have r1 := hb1.row
  have r2 : hasRow w1 w.heap.size 2 = true := hb1.has
  have HB1 := Lib.hid hb1
  clear hk1 hb1
  go_wp2_with fail
  refine (qbytes_any qa ql _).mono ?_
  rintro e w2 ⟨v, rfl, ho, hk2⟩
  obtain ⟨a2, c2, rfl, hb2⟩ := ho.bts
  have hk02 := hk01.trans0 hk2
  have hbq := hk2.blk HB1.out (by simp)
  clear r1 r2 ho hk01 hk2 HB1
  have k0 := hbq.cell (i := 0) rfl
  have k1 := hbq.cell (i := 1) rfl
  clear hbq
  go_upto_region 6 with fail
  go_cut [6, 7] (fun s6 s7 wx => s6 = .int .i64 (clampI (-32768) 32767 qa) ∧ s7 = .int .i64 (qL ql) ∧ Kept [] w2 wx)
  case first =>
    go_quiet (fail)
    all_goals (go_wp2_with fail)
    all_goals (go_meet; exact ⟨congrArg (Value.int .i64) (by unfold clampI; omega), congrArg (Value.int .i64) (by unfold qL clampI; omega), (Kept.refl _ _).drewN _⟩)
  case rest =>
    obtain ⟨rfl, rfl, hkx⟩ := hcut
    clear k0 k1
    have hk0x := hk02.trans0 hkx
    have hb2x := hb2.kept hkx
    have HT := told_four a2 c2 (qB qa ql) _ hb2x
    rw [qB_take, qB_drop, i16_q] at HT
    have HT' := Lib.hid HT
    have cb := clamp_bd (-32768) 32767 qa (by omega)
    have ll := qL_lt ql
    clear HT hk02 hkx hb2
    have hqB := Lib.hid (show qB qa ql = byts (qA qa) 2 ++ byts (qL ql) 2 from rfl)
    have hqA := Lib.hid (show (qA qa : Int) = clampI (-32768) 32767 qa % 65536 by unfold qA; omega)
    have lq := qA_lt qa
    generalize qB qa ql = bq at *
    generalize clampI (-32768) 32767 qa = A at *
    generalize qL ql = L at *
    generalize qA qa = qa' at *
    go_wp2_with fail
    refine HT'.out.mono ?_
    rintro e w3 ⟨rfl, hk3⟩
    have hk03 := hk0x.trans0 hk3
    have hb3 := hb2x.kept hk3
    clear hk0x hk3 hb2x HT'
    have e1 : (A != A) = false := by simp
    have e2 : ((L : Int) != (L : Int)) = false := by simp
    have heq2 := Lib.hid (decide_eq_true hqB.out)
    rcases Int.lt_or_le A 0 with hA | hA
    all_goals
      go_wp2_with fail
      refine (bytesI qa' _ _ _ (by have := hqA.out; omega) rfl (by omega)).mono ?_
      rintro e w4 ⟨rfl, o4, _, hk4⟩
      have hs3 : (w3.alloc (.cells #[.int .i64 A, .int .i64 L] 39)).heap.size = w3.heap.size + 1 := by simp
      rw [hs3] at o4
      clear hs3
      go_wp2_with fail
      refine (bytesI L _ _ _ rfl rfl (by omega)).mono ?_
      rintro e w5 ⟨rfl, _, hb5, hk5⟩
      have hk34 := ((Kept.refl [] w3).alloc (.cells #[.int .i64 A, .int .i64 L] 39)).trans0 hk4
      have hk35 := hk34.trans0 hk5
      have hk05 := hk03.trans0 hk35
      have o5 := o4.kept hk5
      have hs5 := hk5.size
      have hs4 := hk4.size
      clear o4 hk34 hk4
      go_wp2_with (at_builtin; refine wpList_appB rfl (.tmp 44) (.tmp 47) rfl (w3.heap.size + 1) _ 2 (byts qa' 2) rfl o5 _ 2 2 (byts L 2) rfl hb5 (by omega) ?_ ?_)
      · simp at hs4; omega
      intro v6 w6 o6 bl6
      have hs0 := hk03.size
      have hk36 := hk35.below bl6 (by omega)
      have hk06 := hk03.trans0 hk36
      have hb6 := hb3.kept hk36
      obtain ⟨a6, c6, rfl, hv6⟩ := o6.bts
      clear hk03 hk35 hk36 hk05 o5 o6 hs5 hs4 hs0 bl6 hk5 hb5
      go_wp2_with fail
      refine (same_any a2 a6 _ _ c2 c6 bq (byts qa' 2 ++ byts L 2) _ hb6 hv6).mono ?_
      rintro e w7 ⟨he, q, rfl⟩
      rw [heq2.out] at he
      subst he
      have hk07 := hk06.drewN q
      have hl7 := hl'.out.kept hk07
      clear hb6 hv6
      by_cases h4 : n = 4
      · subst h4
        have hlen := hl7.hlen
        have HT2 := told_four a c l _ hl7
        have HT3 := Lib.hid HT2
        have hback := Lib.hid (qB_back l hlen.symm)
        have hx2 : beg (l.take 2) < 65536 := by have := beg_lt (l.take 2); rw [List.length_take, ← hlen] at this; simpa using this
        have hy2 : beg (l.drop 2) < 65536 := by have := beg_lt (l.drop 2); rw [List.length_drop, ← hlen] at this; simpa using this
        clear HT2 hlen
        generalize beg (l.take 2) = x at *
        generalize beg (l.drop 2) = y at *
        generalize IntKind.i16.wrap (x : Int) = X at *
        go_wp2_with fail
        refine HT3.out.mono ?_
        rintro e w8 ⟨rfl, hk8⟩
        have hk08 := hk07.trans0 hk8
        have hbz := Blk.new' w8 #[.int .i64 X, .int .i64 y] 39
        have r1 := hbz.row
        have r2 : hasRow (w8.alloc (.cells #[.int .i64 X, .int .i64 y] 39)) w8.heap.size 2 = true := hbz.has
        have hk08' := hk08.alloc (.cells #[.int .i64 X, .int .i64 y] 39)
        clear hk8 hk07 hbz hk06 hk08
        go_wp2_with fail
        refine (qbytes_any X y _).mono ?_
        rintro e w9 ⟨v9, rfl, o9, hk9⟩
        obtain ⟨a9, c9, rfl, hb9⟩ := o9.bts
        rw [hback.out] at hb9
        have hk09 := hk08'.trans0 hk9
        clear r1 r2 o9 hk9 hk08'
        go_wp2_with fail
        refine (same_any a9 a _ _ c9 c l l _ hb9 (hl'.out.kept hk09)).mono ?_
        rintro e w10 ⟨he, q2, rfl⟩
        simp at he
        subst he
        go_wp2
        go_ret
        exact ⟨rfl, hk09.drewN _⟩
      · have hn4 : ((n : Int) != 4) = true := by rw [bne_iff_ne]; omega
        have HT2 := Lib.hid (told_ne a n c l _ hl7 h4)
        clear h4
        go_wp2_with fail
        refine HT2.out.mono ?_
        rintro e w8 ⟨rfl, hk8⟩
        have hk08 := hk07.trans0 hk8
        have hbz := Blk.new' w8 #[.int .i64 0, .int .i64 0] 39
        have r1 := hbz.row
        have r2 : hasRow (w8.alloc (.cells #[.int .i64 0, .int .i64 0] 39)) w8.heap.size 2 = true := hbz.has
        have hk08' := hk08.alloc (.cells #[.int .i64 0, .int .i64 0] 39)
        have hz := zeroQ
        clear hk8 hk07 hbz hk06 hk08
        go_wp2
        go_ret
        exact ⟨rfl, hk08'⟩
open Go.ChangeShapes Go.WideShapes in
theorem q_of {H : Type} {enc : TypeId × Value → H} {w : World} {base : Nat} {held : Bool} {cs : List Value} (h : Rd enc Try.prog w base (fun _ => true) held 39 cs) : ∃ a l, cs = [.int .i64 a, .int .i64 l] := by
  have hl := h.len Try.underlying39
  rw [show Try.prog.cellsOf 39 = 2 by kernel_rfl] at hl
  have ci : Try.prog.cellsOf 3 = 1 := by kernel_rfl
  obtain ⟨n0, e0, f0⟩ := (h.field Try.underlying39 0 _ rfl).int Try.underlying3
  obtain ⟨n1, e1, f1⟩ := (h.field Try.underlying39 1 _ rfl).int Try.underlying3
  try simp only [ci] at e0
  try simp only [ci] at e1
  try rw [ci] at e0
  try rw [ci] at e1
  match cs, hl with
  | [v0, v1], _ =>
    have g0 := at_of e0; have g1 := at_of e1
    simp at g0 g1
    subst g0 g1
    exact ⟨n0, n1, rfl⟩
end Go.Proofs.Ytpedenaaiinakaa
