/- cut and act of the document. -/
import Derived.Test.YtdfbofkdlgfblaaDoorScL
namespace Go.Proofs.YtdfbofkdlgfblaaDoor
open Go Go.RowKit
/-- The words still to come, behind a word begun. -/
def splitP (cur r : List UInt8) : List (List UInt8) := match splitL r with | [] => [] | w :: t => (cur ++ w) :: t
theorem splitP_nil (r : List UInt8) : splitP [] r = splitL r := by
  unfold splitP
  cases splitL r <;> rfl
theorem splitP_end (cur : List UInt8) : splitP cur [] = [cur] := by simp [splitP, splitL]
theorem splitP_blank (cur r : List UInt8) : splitP cur (32 :: r) = cur :: splitP [] r := by
  rw [splitP_nil]
  simp [splitP, splitL]
theorem splitP_more (cur r : List UInt8) {c : UInt8} (h : c ≠ 32) : splitP cur (c :: r) = splitP (cur ++ [c]) r := by
  unfold splitP
  rw [splitL, if_neg h]
  cases hs : splitL r with
  | nil => exact absurd hs (splitL_ne r)
  | cons w t => simp
def CtI (l : List UInt8) (i : Nat) (ws : List (List UInt8)) (cur : List UInt8) : Prop := splitL l = ws ++ splitP cur (l.drop i) ∧ ws.length + cur.length ≤ i
theorem CtI.start (l : List UInt8) : CtI l 0 [] [] := ⟨by rw [splitP_nil]; rfl, by simp⟩
theorem CtI.blank {l : List UInt8} {i : Nat} {ws : List (List UInt8)} {cur : List UInt8} (h : CtI l i ws cur) (hc : l[i]? = some 32) : CtI l (i + 1) (ws ++ [cur]) [] := by
  obtain ⟨hi, he⟩ := List.getElem?_eq_some_iff.1 hc
  refine ⟨?_, by have := h.2; simp; omega⟩
  rw [h.1, List.drop_eq_getElem_cons hi, he, splitP_blank]
  simp
theorem CtI.more {l : List UInt8} {i : Nat} {ws : List (List UInt8)} {cur : List UInt8} {c : UInt8} (h : CtI l i ws cur) (hc : l[i]? = some c) (hn : c ≠ 32) : CtI l (i + 1) ws (cur ++ [c]) := by
  obtain ⟨hi, rfl⟩ := List.getElem?_eq_some_iff.1 hc
  refine ⟨?_, by have := h.2; simp; omega⟩
  rw [h.1, List.drop_eq_getElem_cons hi, splitP_more _ _ hn]
theorem CtI.done {l : List UInt8} {ws : List (List UInt8)} {cur : List UInt8} (h : CtI l l.length ws cur) : splitL l = ws ++ [cur] := by
  rw [h.1, List.drop_length, splitP_end]
theorem infoS : (Tryd.prog.info? 9).map (fun i => (i.zero, i.size, i.bytes)) = some (some (.string ByteArray.empty), 1, 16) := by kernel_rfl
theorem txts_snoc (ws : List (List UInt8)) (x : List UInt8) : txts (ws ++ [x]) = txts ws ++ [txt x] := by simp [txts]
/-- One letter of a text, as a text. -/
theorem slice_one {l : List UInt8} {i : Nat} {c : UInt8} (h : l[i]? = some c) (X : World) : (Instr.slice 9 (txt l) (some (.int .i64 (i : Int))) (some (.int .i64 ((i : Int) + 1))) none).run Tryd.prog X = .ok (txt [c]) X := by
  obtain ⟨hi, rfl⟩ := List.getElem?_eq_some_iff.1 h
  rw [run_slice_string (P := Tryd.prog) X 9 ⟨l.toArray⟩ .i64 .i64 (i : Int) ((i : Int) + 1) Tryd.underlying9 (by omega) (by omega) (by rw [txt_size]; omega), ByteArray.extract_mk,
    show ((i : Int)).toNat = i by omega, show ((i : Int) + 1).toNat = i + 1 by omega, show i + 1 - i = 1 by omega, List.drop_eq_getElem_cons hi]
  rfl
set_option maxRecDepth 100000 in
set_option maxHeartbeats 6400000 in
/-- The document's cut. -/
theorem cut_any (l : List UInt8) (w : World) (hl : l.length ≤ 200) :
    Calls Tryd.prog 32 #[txt l] w fun e w' => ∃ v, e = .returned v ∧ w'.ownsRow w.heap.size 9 1 v (splitL l).length (txts (splitL l)) ∧ Kept [] w w' := by
  have HLL := hx hl
  go_enter Tryd.func32, Tryd.ntmps32
  go_wp2_with fail
  go_loopw [3, 4, 5] (fun ov cv iv wr => ∃ (v : Value) (ws : List (List UInt8)) (cur : List UInt8) (i : Nat), i ≤ l.length ∧ ov = v ∧ cv = txt cur ∧ iv = .int .i64 (i : Int) ∧ CtI l i ws cur ∧ wr.ownsRow w.heap.size 9 1 v ws.length (txts ws) ∧ Kept [] w wr) (fun _ _ iv _ => l.length - (intOf iv).toNat)
  case atStart => exact ⟨_, [], [], 0, Nat.zero_le _, rfl, rfl, rfl, CtI.start l, World.ownsRow_nil _ _ _ _, Kept.refl _ _⟩
  case round =>
    obtain ⟨v, ws, cur, i, hi, rfl, rfl, rfl, hc, ho, hk⟩ := hrel
    have HC := hx hc
    have HCL := hx hc.2
    have HO := hx ho
    have HK := hx hk
    have HI := hx hi
    by_cases hlt : i < l.length
    · have hil : (i : Int) < (l.length : Int) := by omega
      obtain ⟨c, hcc⟩ : ∃ c, l[i]? = some c := ⟨_, List.getElem?_eq_getElem hlt⟩
      have hix : ∀ X, (Instr.index 9 (txt l) (.int .i64 (i : Int))).run Tryd.prog X = .ok (.int .u8 (c.toNat : Int)) X := fun X => idx_txt hcc X
      have HLT := hx hlt
      have HCC := hx hcc
      have hi200 : i < 200 := by omega
      have HI200 := hx hi200
      clear hi hc ho hk hlt hcc
      by_cases h32 : c = 32
      · subst h32
        have HNX := hx (HC.out.blank HCC.out)
        have hix2 : ∀ X, (Instr.index 9 (txt l) (.int .i64 (i : Int))).run Tryd.prog X = .ok (.int .u8 32) X := hix
        clear hix
        go_wp2_with (at_builtin; refine wpList_app rfl (.tmp 16) (.tmp 18) 73 rfl w.heap.size 9 (.string ByteArray.empty) 1 16 infoS Tryd.underlying73 rfl (by omega) u3 ws.length (txts ws) rfl (World.ownsRow.alloc HO.out _) (some ⟨_, 0, none⟩) 1 1 [txt cur] rfl rfl (by simp) (by omega) (newsB (Blk.new _ [txt cur] 9)) (by intro v hv; simp at hv; subst hv; rfl) (by have h1 := HCL.out; have h2 := HI200.out; simp [maxLen]; omega) (by have h1 := HCL.out; have h2 := HI200.out; omega) (by have h1 := HK.out.size; simp; omega) ?_; intro u2 w8 ho8 hg8; have HO8 := hx ho8; have HK8 := hx ((HK.out.alloc _).grown hg8 (fun q hq => .inr (HO.out.lt q hq).1)); clear ho8 hg8)
        go_roundw
        case rel => exact ⟨u2, ws ++ [cur], [], i + 1, HLT.out, rfl, rfl, by push_cast; rfl, HNX.out, by rw [txts_snoc, List.length_append]; exact HO8.out, HK8.out⟩
        case measure =>
          simp only [intOf]
          have h := HLT.out
          omega
      · have HNX := hx (HC.out.more HCC.out h32)
        have hcb : ((c.toNat : Int) == 32) = false := by
          simp
          intro h
          apply h32
          apply UInt8.toNat_inj.1
          show c.toNat = 32
          omega
        have HCT := hx (show cur.length ≤ 200 by have := HCL.out; omega)
        have hct := HCT.out
        have hsl : ∀ X, (Instr.slice 9 (txt l) (some (.int .i64 (i : Int))) (some (.int .i64 ((i : Int) + 1))) none).run Tryd.prog X = .ok (txt [c]) X := fun X => slice_one HCC.out X
        go_wp2_with fail
        go_roundw
        case rel =>
          exact ⟨u3, ws, cur ++ [c], i + 1, HLT.out, rfl, by rw [txt_add], by push_cast; rfl, HNX.out, HO.out, HK.out⟩
        case measure =>
          simp only [intOf]
          have h := HLT.out
          omega
    · have hil : ¬ (i : Int) < (l.length : Int) := by omega
      have hie : i = l.length := by omega
      subst hie
      have HD := hx hc.done
      clear hc ho hk hi hlt
      go_wp2_with (at_builtin; refine wpList_app rfl (.tmp 27) (.tmp 29) 73 rfl w.heap.size 9 (.string ByteArray.empty) 1 16 infoS Tryd.underlying73 rfl (by omega) u3 ws.length (txts ws) rfl (World.ownsRow.alloc HO.out _) (some ⟨_, 0, none⟩) 1 1 [txt cur] rfl rfl (by simp) (by omega) (newsB (Blk.new _ [txt cur] 9)) (by intro v hv; simp at hv; subst hv; rfl) (by have h1 := HCL.out; have h2 := HLL.out; simp [maxLen]; omega) (by have h1 := HCL.out; have h2 := HLL.out; omega) (by have h1 := HK.out.size; simp; omega) ?_; intro u2 w8 ho8 hg8; have HO8 := hx ho8; have HK8 := hx ((HK.out.alloc _).grown hg8 (fun q hq => .inr (HO.out.lt q hq).1)); clear ho8 hg8)
      go_ret
      refine ⟨u2, rfl, ?_, HK8.out⟩
      rw [HD.out, txts_snoc, List.length_append]
      exact HO8.out
end Go.Proofs.YtdfbofkdlgfblaaDoor
