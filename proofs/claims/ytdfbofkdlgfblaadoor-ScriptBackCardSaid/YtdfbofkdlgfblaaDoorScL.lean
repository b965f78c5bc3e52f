/- Line of the program. -/
import Derived.Test.YtdfbofkdlgfblaaDoorScK
namespace Go.Proofs.YtdfbofkdlgfblaaDoor
open Go Go.RowKit
theorem zeroF_snoc : ∀ (fs : List UInt8) (x : List Int) (f : UInt8), zeroF x (fs ++ [f]) = (zeroF x fs).set (cellN f) 0
  | [], x, f => rfl
  | g :: fs, x, f => by rw [List.cons_append, zeroF, zeroF, zeroF_snoc fs]
theorem zeroF_len : ∀ (fs : List UInt8) (x : List Int), (zeroF x fs).length = x.length
  | [], x => rfl
  | f :: fs, x => by rw [zeroF, zeroF_len fs]; simp
theorem zeroF_head : ∀ (fs : List UInt8) (x : List Int), (zeroF x fs).getD 0 0 = x.getD 0 0
  | [], x => rfl
  | f :: fs, x => by
    rw [zeroF, zeroF_head fs]
    have hc : cellN f ≠ 0 := by unfold cellN; repeat' split
                                all_goals omega
    simp only [List.getD_eq_getElem?_getD]
    rw [List.getElem?_set_ne hc]
theorem getF_snoc (x : List Int) (fs : List UInt8) (f : UInt8) : getF x (fs ++ [f]) = getF x fs ++ [x.getD (cellN f) 0] := by simp [getF]
theorem six {x : List Int} (h : x.length = 6) : ∃ k p a b c d, x = [k, p, a, b, c, d] := by
  match x, h with
  | [k, p, a, b, c, d], _ => exact ⟨k, p, a, b, c, d, rfl⟩
theorem grown_blk2 {w w2 : World} {row : Option Nat} {b : Nat} {xs : List Value} {T : TypeId} (hg : w.grownBy w2 row) (h : Blk w b xs T) (hn : some b ≠ row) : Blk w2 b xs T := by
  have hlt := h.lt
  unfold Blk at *
  rw [hg.block b hlt hn]
  exact h
theorem own_set2 {w w2 : World} {base size : Nat} {bs : List Nat} {e : TypeId} {v : Value} {n : Nat} {xs : List Value} (h : w.ownsRow base e size v n xs) (hk : Kept bs w w2) (hb : ∀ b, b ∈ bs → b < base) : w2.ownsRow base e size v n xs := own_set h hk hb
theorem two_boxes (w : World) (x : List Int) (o : Obj) (ho : o = .cells (ints x).toArray 28) : Blk ((w.alloc o).alloc o) w.heap.size (ints x) 28 ∧ Blk ((w.alloc o).alloc o) (w.heap.size + 1) (ints x) 28 := by
  subst ho
  refine ⟨(Blk.new w (ints x) 28).alloc _, ?_⟩
  have h := Blk.new (w.alloc (.cells (ints x).toArray 28)) (ints x) 28
  rwa [show (w.alloc (.cells (ints x).toArray 28)).heap.size = w.heap.size + 1 by simp] at h
theorem own_rw {w : World} {base : Nat} {v : Value} {ns : List Int} (h : w.ownsRow base 3 1 v ns.length (ints ns)) : ∃ a c, v = .slice a ns.length c ∧ Rw w a ns := by
  by_cases hn : 0 < ns.length
  · obtain ⟨g, cap, cur, rfl, _, hB, ht, _⟩ := own_blk1 h hn
    exact ⟨_, _, rfl, Rw.blk hB ht⟩
  · have h0 : ns = [] := List.eq_nil_of_length_eq_zero (by omega)
    subst h0
    rcases h.2 with ⟨rfl, _⟩ | ⟨g, cap, cur, rfl, _⟩
    · exact ⟨none, 0, rfl, Rw.nil _ _⟩
    · exact ⟨_, _, rfl, Rw.nil _ _⟩
theorem line_ne {x : List Int} {k : Int} {fs : List UInt8} {L : List UInt8} (h : lineL x = if zeroF x fs = base6 k then some L else none) (hn : zeroF x fs ≠ base6 k) : lineL x = none := by rw [h, if_neg hn]
theorem line_eq {x : List Int} {k : Int} {fs : List UInt8} {L : List UInt8} (h : lineL x = if zeroF x fs = base6 k then some L else none) (hn : zeroF x fs = base6 k) : lineL x = some L := by rw [h, if_pos hn]
set_option maxRecDepth 100000 in
set_option maxHeartbeats 12800000 in
/-- The program's Line. -/
theorem pline_any (k p a b c d : Int) (w : World) (h64 : ∀ n, n ∈ [k, p, a, b, c, d] → in64 n) :
    Calls Tryd.prog 13 #[actV [k, p, a, b, c, d]] w fun e w' => e = .returned (lineV (lineL [k, p, a, b, c, d])) ∧ Kept [] w w' := by
  have HW := hx (fun w1 => word_any k w1)
  by_cases hr : 1 ≤ k ∧ k ≤ 8
  · have hwn : (wordL k == []) = false := by
      rcases kind_cases hr.1 hr.2 with rfl | rfl | rfl | rfl | rfl | rfl | rfl | rfl <;> decide
    have hwn2 : ¬ wordL k = [] := by simpa using hwn
    have HL := hx (show lineL [k, p, a, b, c, d] = if zeroF [k, p, a, b, c, d] (fldL k) = base6 k then some (lineK k (getF [k, p, a, b, c, d] (fldL k))) else none by
      unfold lineL
      rw [List.getD_cons_zero, if_neg hwn2])
    have H64 := hx h64
    have hn4 := fld_len k
    have HX := hx (show ([k, p, a, b, c, d] : List Int).length = 6 from rfl)
    clear h64 hr hwn2
    show Calls _ _ #[.agg #[.int .i64 k, .int .i64 p, .int .i64 a, .int .i64 b, .int .i64 c, .int .i64 d]] w _
    go_enter Tryd.func13, Tryd.ntmps13
    go_upto_region 6 with (go_at_call 25; refine (HW.out _).mono ?_; rintro e w1 ⟨rfl, rfl⟩)
    go_wp2_with fail
    obtain ⟨x, hxe⟩ : ∃ x, x = [k, p, a, b, c, d] := ⟨_, rfl⟩
    have HBR := hx (two_boxes w x (.cells #[.int .i64 k, .int .i64 p, .int .i64 a, .int .i64 b, .int .i64 c, .int .i64 d] 28) (by rw [hxe]; rfl))
    rw [← hxe] at HL H64 HX
    have HXE := hx hxe
    clear hxe HW
    generalize hfs : fldL k = fs at *
    have HFS := hx hfs
    clear hfs
    generalize hnn : fs.length = n at *
    have HNN := hx hnn
    clear hnn
    go_loopw [7, 20] (fun lv iv wr => ∃ (v : Value) (i : Nat), i ≤ n ∧ lv = v ∧ iv = .int .i64 (i : Int) ∧ wr.ownsRow (w.heap.size + 2) 3 1 v i (ints (getF x (fs.take i))) ∧ Blk wr w.heap.size (ints x) 28 ∧ Blk wr (w.heap.size + 1) (ints (zeroF x (fs.take i))) 28 ∧ Kept [] w wr ∧ w.heap.size + 2 ≤ wr.heap.size) (fun _ iv _ => n - (intOf iv).toNat)
    case atStart => exact ⟨_, 0, Nat.zero_le _, rfl, rfl, World.ownsRow_nil _ _ _ _, HBR.out.1, HBR.out.2, ((Kept.refl [] w).alloc _).alloc _, by simp⟩
    case round =>
      clear HBR
      obtain ⟨v, i, hi, rfl, rfl, ho, hb, hrr, hk, hs⟩ := hrel
      have HO := hx ho
      have HB := hx hb
      have HR := hx hrr
      have HK := hx hk
      have HS := hx hs
      have HI := hx hi
      generalize hb0 : w.heap.size = b0 at *
      have HB00 := hx hb0
      clear hb0
      by_cases hlt : i < n
      · have hil : (i : Int) < (n : Int) := by omega
        have hi4 : i < 4 := by omega
        have HI4 := hx hi4
        obtain ⟨f, hf⟩ : ∃ f, fs[i]? = some f := ⟨_, List.getElem?_eq_getElem (by have := HNN.out; omega)⟩
        have HF1 := hx (fun w1 => field_any b0 f w1)
        have HF2 := hx (fun w1 => field_any (b0 + 1) f w1)
        have hix : ∀ X, (Instr.index 9 (txt fs) (.int .i64 (i : Int))).run Tryd.prog X = .ok (.int .u8 (f.toNat : Int)) X := fun X => idx_txt hf X
        have hcx : x[cellN f]? = some (x.getD (cellN f) 0) := by
          have := cell_lt f
          rw [List.getD_eq_getElem?_getD, List.getElem?_eq_getElem (by rw [HX.out]; exact this)]
          rfl
        have hcl := hb.cell (ints_get hcx)
        have hzl : (zeroF x (fs.take i)).length = 6 := by rw [zeroF_len, HX.out]
        have HG := hx (show getF x (fs.take (i + 1)) = getF x (fs.take i) ++ [x.getD (cellN f) 0] ∧ zeroF x (fs.take (i + 1)) = (zeroF x (fs.take i)).set (cellN f) 0 by
          obtain ⟨h1, rfl⟩ := List.getElem?_eq_some_iff.1 hf
          rw [List.take_succ_eq_append_getElem h1, getF_snoc, zeroF_snoc]
          exact ⟨rfl, rfl⟩)
        have HZL := hx hzl
        have HLT := hx hlt
        generalize hy : x.getD (cellN f) 0 = y at *
        clear ho hb hrr hk hi hlt hcx hzl hf hs
        go_upto_region 10 with (first
          | (go_at_call 26; refine (HF1.out _).mono ?_; rintro e w1 ⟨rfl, rfl⟩)
          | (at_builtin; refine wpList_app rfl (.tmp 23) (.tmp 30) 65 rfl (b0 + 2) 3 (.int .i64 0) 1 8 infoI Tryd.underlying65 rfl (by omega) u7 i (ints (getF x (fs.take i))) rfl (World.ownsRow.alloc HO.out _) (some ⟨_, 0, none⟩) 1 1 [.int .i64 y] rfl rfl (by simp) (by omega) (newsB (Blk.new _ [.int .i64 y] 3)) (by intro v hv; simp at hv; subst hv; rfl) (by have h2 := HI4.out; simp [maxLen]; omega) (by have h2 := HI4.out; omega) (by have h1 := HS.out; simp; omega) ?_; intro u2 w8 ho8 hg8; have HO8 := hx ho8; have HB8 := hx (grown_blk2 hg8 (HB.out.alloc _) (fun e => by have := (HO.out.lt _ e.symm).1; omega)); have HR8 := hx (grown_blk2 hg8 (HR.out.alloc _) (fun e => by have := (HO.out.lt _ e.symm).1; omega)); have HK8 := hx ((HK.out.alloc _).grown hg8 (fun q hq => .inr (by have := (HO.out.lt q hq).1; have := HB00.out; omega))); have HS8 := hx (Nat.le_trans (by simp; have := HS.out; omega) hg8.size : b0 + 2 ≤ w8.heap.size); clear ho8 hg8))
        have hct := HR8.out.cell (i := cellN f) (v := .int .i64 ((zeroF x (fs.take i)).getD (cellN f) 0)) (ints_get (by
          have := cell_lt f
          rw [List.getD_eq_getElem?_getD, List.getElem?_eq_getElem (by rw [HZL.out]; exact this)]
          rfl))
        have hfr := HR8.out.free (cellN f)
        generalize (zeroF x (fs.take i)).getD (cellN f) 0 = old at hct
        clear HB HR HK HO HS HF1
        go_wp2_with (go_at_call 26; refine (HF2.out _).mono ?_; rintro e w9 ⟨rfl, rfl⟩)
        go_roundw
        case rel =>
          have h := HR8.out.set (cellN f) (.int .i64 0)
          rw [ints_set, ← HG.out.2] at h
          refine ⟨u2, i + 1, HLT.out, rfl, rfl, ?_, HB8.out.set_ne (by simp) _, h, HK8.out.setCell (.inr (by have := HB00.out; simp; omega)) _, by rw [World.setCell]; simpa using HS8.out⟩
          rw [HG.out.1, ints_snoc]
          exact own_set HO8.out ((Kept.refl [b0 + 1] _).setCell (.inl (by simp)) _) (fun b hb => by simp at hb; omega)
        case measure =>
          simp only [intOf]
          have h := HLT.out
          omega
      · have hil : ¬ (i : Int) < (n : Int) := by omega
        have hie : i = n := by omega
        rw [hie] at HO HR
        rw [List.take_of_length_le (by have := HNN.out; omega)] at HO HR
        obtain ⟨k2, r1, r2, r3, r4, r5, hz⟩ := six (show (zeroF x fs).length = 6 by rw [zeroF_len, HX.out])
        have hk2 : k2 = k := by
          have h1 := zeroF_head fs x
          rw [hz, HXE.out] at h1
          simpa using h1
        subst hk2
        have HZ := hx hz
        rw [hz] at HR
        have d0 := HR.out.cell (i := 0) rfl
        have d1 := HR.out.cell (i := 1) rfl
        have d2 := HR.out.cell (i := 2) rfl
        have d3 := HR.out.cell (i := 3) rfl
        have d4 := HR.out.cell (i := 4) rfl
        have d5 := HR.out.cell (i := 5) rfl
        have e0 := HB.out.cell (i := 0) (v := .int .i64 k2) (by rw [HXE.out]; rfl)
        clear ho hb hrr hk hi hlt hz hs hie
        have hgl : (getF x fs).length = n := by rw [getF_len, HNN.out]
        have HO2 := HO.out
        rw [← hgl] at HO2
        obtain ⟨a9, c9, hv, hrw⟩ := own_rw HO2
        subst hv
        rw [hgl]
        have HGL := hx hgl
        have HLI := hx (fun w1 (h : Rw w1 a9 (getF x fs)) => line_any (wordL k2) (getF x fs) a9 c9 w1 h (getF_in H64.out _) (by have := word_len k2; omega) (by rw [hgl]; omega))
        rw [hgl] at HLI
        have HRW := hx hrw
        clear HO HO2 hrw hgl
        go_upto_region 14 with fail
        · have g1 : r1 = 0 := by assumption
          have g2 : r2 = 0 := by assumption
          have g3 : r3 = 0 := by assumption
          have g4 : r4 = 0 := by assumption
          have g5 : r5 = 0 := by assumption
          have HE := hx (line_eq HL.out (by rw [HZ.out, g1, g2, g3, g4, g5]; rfl))
          clear d0 d1 d2 d3 d4 d5 e0 g1 g2 g3 g4 g5
          go_wp2_with (go_at_call 27; refine (HLI.out _ HRW.out).mono ?_; rintro e w9 ⟨rfl, hk9⟩; have HK9 := hx (HK.out.trans0 hk9); clear hk9)
          go_ret2
          refine ⟨?_, HK9.out⟩
          rw [← HXE.out, HE.out, ← accL_line]
          rfl
        all_goals
          have HE := hx (line_ne HL.out (by
            rw [HZ.out]
            intro h
            simp only [base6, List.cons.injEq, and_true, true_and] at h
            obtain ⟨q1, q2, q3, q4, q5⟩ := h
            first | exact absurd q1 (by assumption) | exact absurd q2 (by assumption) | exact absurd q3 (by assumption) | exact absurd q4 (by assumption) | exact absurd q5 (by assumption)))
          go_ret2
          exact ⟨by rw [← HXE.out, HE.out]; rfl, HK.out⟩
  · have HO := hx (line_out (p := p) (a := a) (b := b) (c := c) (d := d) hr)
    have hw0 : wordL k = [] := by
      cases hw : wordL k with
      | nil => rfl
      | cons x y => exact absurd (word_kind (by rw [hw]; simp)) hr
    rw [hw0] at HW
    clear hw0 hr h64
    show Calls _ _ #[.agg #[.int .i64 k, .int .i64 p, .int .i64 a, .int .i64 b, .int .i64 c, .int .i64 d]] w _
    go_enter Tryd.func13, Tryd.ntmps13
    go_wp2_with (go_at_call 25; refine (HW.out _).mono ?_; rintro e w1 ⟨rfl, rfl⟩)
    go_ret2
    exact ⟨by rw [HO.out]; rfl, (Kept.refl [] w).alloc _⟩
end Go.Proofs.YtdfbofkdlgfblaaDoor
