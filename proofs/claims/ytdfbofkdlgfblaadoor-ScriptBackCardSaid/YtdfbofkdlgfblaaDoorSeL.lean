/- The document's Parse. -/
import Derived.Test.YtdfbofkdlgfblaaDoorSeG
import Derived.Test.YtdfbofkdlgfblaaDoorSeK
import Derived.Test.YtdfbofkdlgfblaaDoorScS
namespace Go.Proofs.YtdfbofkdlgfblaaDoor
open Go Go.RowKit Go.Shelf
def zcf : List Value := cfL 0 0 0 0 0 0 0 0 0 0 0
/-- What the document's Parse answers. -/
def RaQ (o : Except (Int × Int) PSt) (w0 : World) (e : Ending) (w' : World) : Prop := Kept [] w0 w' ∧ match o with
  | .error (n, c) => e = .returned (.tuple #[.agg zcf.toArray, .slice none 0 0, .int .i64 n, .int .i64 c])
  | .ok s => ∃ a c, e = .returned (.tuple #[.agg (cfOf s.1).toArray, Value.slice a s.2.length c, .int .i64 0, .int .i64 0]) ∧ AcR w' a s.2
theorem ret_cell4 {P : Program} {w : World} {fn : Func} {p q r t : Tmp} {ty : TypeId} (h : fn.results = #[.cell p ty, .tmp q, .tmp r, .tmp t]) (tmps : Array Value) (g : Nat) (T : TypeId) (xs : List Value) (v1 v2 v3 : Value) (d : TypeDesc)
    (hp : tmps.getD p undef = .pointer (some ⟨g, 0, none⟩)) (hq : tmps.getD q undef = v1) (hr : tmps.getD r undef = v2) (ht : tmps.getD t undef = v3) (hb : Blk w g xs T)
    (hu : P.underlying ty = some d) (hd : (match d with | .struct _ | .array _ _ => true | _ => false) = true) (hi : (P.info? ty).map (·.size) = some xs.length) :
    (results fn tmps).run P w = .ok (.tuple #[.agg xs.toArray, v1, v2, v3]) w := by
  have hp' : tmps[p]?.getD undef = .pointer (some ⟨g, 0, none⟩) := by simpa using hp
  have hq' : tmps[q]?.getD undef = v1 := by simpa using hq
  have hr' : tmps[r]?.getD undef = v2 := by simpa using hr
  have ht' : tmps[t]?.getD undef = v3 := by simpa using ht
  have e1 := run_loadVar_row w g T ty xs.toArray (0, 0) d hb hu hd (by simpa using hi)
  simp [results, h, hp', hq', hr', ht', asAddr, e1]
structure RaI (w0 : World) (z : Nat) (s : PSt) (av : Value) (W : World) : Prop where
  p0 : Blk W z zcf 50
  p1 : Blk W (z + 1) zcf 50
  p2 : Blk W (z + 2) (cfOf s.1) 50
  ar : W.ownsRow (z + 3) 28 6 av s.2.length (actsC s.2)
  k0 : Kept [] w0 W
  sz : z + 3 ≤ W.heap.size
theorem RaI.kept {w0 W C : World} {z : Nat} {s : PSt} {av : Value} (h : RaI w0 z s av W) (hk : Kept [] W C) : RaI w0 z s av C :=
  ⟨hk.blk h.p0 (by simp), hk.blk h.p1 (by simp), hk.blk h.p2 (by simp), own_kept0 h.ar hk, h.k0.trans0 hk, Nat.le_trans h.sz hk.size⟩
theorem rend_bad {w0 A C : World} {z : Nat} {s : PSt} {v : Value} {po : Except (Int × Int) PSt} {n c : Int} {t : Array Value} (hpo : po = .error (n, c)) (hz : w0.heap.size = z) (hR : RaI w0 z s v A) (hb : Blk C z zcf 50) (hk : Kept [z] A C)
    (h2 : t.getD 2 undef = .pointer (some ⟨z, 0, none⟩)) (h3 : t.getD 3 undef = .slice none 0 0) (h4 : t.getD 4 undef = .int .i64 n) (h5 : t.getD 5 undef = .int .i64 c) :
    bodyPost Tryd.prog Tryd.f21 (fun e w' => RaQ po w0 e w') Exit.ret { tmps := t, defers := [] } C := by
  refine bodyPost_ret (ret_cell4 rfl _ z _ _ _ _ _ _ h2 h3 h4 h5 hb Tryd.underlying50 rfl (by kernel_rfl)) rfl ?_
  rw [hpo]
  exact ⟨hR.k0.trans hk (ds := []) (fun _ h => h) (fun x h => by simp at h; subst h; exact .inr (by omega)), rfl⟩
/-- A text, as far as it is read: the lines pre, and what stands behind the last of them. -/
structure LnI (text : List UInt8) (i : Nat) (pre : List (List UInt8)) (cur : List UInt8) : Prop where
  ls : lineS text = pre ++ lineS (cur ++ text.drop i)
  nt : (10 : UInt8) ∉ cur
  at_ : (text.take i).drop (i - cur.length) = cur
  le : cur.length ≤ i
  pl : pre.length ≤ i
theorem LnI.start (text : List UInt8) : LnI text 0 [] [] := ⟨rfl, by simp, by simp, Nat.le_refl _, Nat.le_refl _⟩
theorem LnI.more {text : List UInt8} {i : Nat} {pre : List (List UInt8)} {cur : List UInt8} {c : UInt8} (h : LnI text i pre cur) (hc : text[i]? = some c) (hn : c ≠ 10) : LnI text (i + 1) pre (cur ++ [c]) := by
  obtain ⟨hi, hce⟩ := List.getElem?_eq_some_iff.1 hc
  have h5 := h.le
  have h6 := h.pl
  refine ⟨?_, ?_, ?_, by simp; omega, by omega⟩
  · rw [h.ls, List.drop_eq_getElem_cons hi, hce, List.append_assoc]
    rfl
  · intro hm
    rcases List.mem_append.1 hm with hm | hm
    · exact h.nt hm
    · simp at hm; exact hn hm.symm
  · rw [List.length_append, List.length_singleton, show i + 1 - (cur.length + 1) = i - cur.length by omega, List.take_succ_eq_append_getElem hi, List.drop_append_of_le_length (by simp; omega), h.at_, hce]
theorem LnI.next {text : List UInt8} {i : Nat} {pre : List (List UInt8)} {cur : List UInt8} (h : LnI text i pre cur) (hc : text[i]? = some 10) : LnI text (i + 1) (pre ++ [cur]) [] := by
  obtain ⟨hi, hce⟩ := List.getElem?_eq_some_iff.1 hc
  have h6 := h.pl
  refine ⟨?_, by simp, by simp, Nat.zero_le _, by simp; omega⟩
  rw [h.ls, List.drop_eq_getElem_cons hi, hce, lineS_line h.nt]
  simp
theorem LnI.done {text : List UInt8} {pre : List (List UInt8)} {cur : List UInt8} (h : LnI text text.length pre cur) : lineS text = pre ++ lineS cur := by
  have h2 := h.ls
  rwa [List.drop_length, List.append_nil] at h2
theorem slice_mid {text : List UInt8} {i : Nat} {pre : List (List UInt8)} {cur : List UInt8} (h : LnI text i pre cur) (hi : i ≤ text.length) (X : World) :
    (Instr.slice 9 (txt text) (some (.int .i64 ((i - cur.length : Nat) : Int))) (some (.int .i64 (i : Int))) none).run Tryd.prog X = .ok (txt cur) X := by
  have h5 := h.le
  rw [run_slice_string (P := Tryd.prog) X 9 ⟨text.toArray⟩ .i64 .i64 ((i - cur.length : Nat) : Int) (i : Int) Tryd.underlying9 (by omega) (by omega) (by rw [txt_size]; omega), ByteArray.extract_mk, Int.toNat_natCast, Int.toNat_natCast]
  have e := h.at_
  rw [List.drop_take] at e
  rw [e]
/-- What a line does to the count of the first lines. -/
theorem step_cnt {s t : PSt} {l : List UInt8} {n : Nat} (h : stepP s l = .ok t) (hn : s.1.length = min n 4) : t.1.length = min (n + 1) 4 := by
  unfold stepP at h
  by_cases h4 : s.1.length < 4
  · rw [if_pos h4] at h
    cases hq : hlL s.1.length l with
    | none => rw [hq] at h; cases h
    | some ns =>
      rw [hq] at h
      simp only [Except.ok.injEq] at h
      subst h
      simp
      omega
  · rw [if_neg h4] at h
    cases hq : parseL l with
    | none => rw [hq] at h; cases h
    | some x =>
      rw [hq] at h
      by_cases h40 : 4096 ≤ s.2.length
      · simp [h40] at h
      · simp only [if_neg h40, Except.ok.injEq] at h
        subst h
        dsimp only
        omega
theorem n4_next {t : PSt} {n : Nat} {pre : List (List UInt8)} {cur : List UInt8} (h : t.1.length = min (n + 1) 4) (hn : pre.length = n) : t.1.length = min (pre ++ [cur]).length 4 := by
  rw [List.length_append, hn, h]
  rfl
/-- The whole of where the loop stands. -/
structure RaL (text : List UInt8) (i : Nat) (pre : List (List UInt8)) (cur : List UInt8) (s : PSt) : Prop where
  ln : LnI text i pre cur
  at_ : AtP pre s
  hd : HdOk s.1
  xs : XsOk s.2
  n4 : s.1.length = min pre.length 4
set_option maxRecDepth 100000 in
set_option maxHeartbeats 12800000 in
theorem rparset_long (text : List UInt8) (w0 : World) (hl : 65536 < text.length) :
    Calls Tryd.prog 21 #[txt text] w0 fun e w' => RaQ (parseP text) w0 e w' := by
  unfold parseP
  rw [if_pos hl]
  have hil : (65536 : Int) < (text.length : Int) := by omega
  clear hl
  go_enter Tryd.func21, Tryd.ntmps21
  go_upto_region 3 with fail
  have B0 := hx ((Blk.new w0 zcf 50).alloc (.cells zcf.toArray 50))
  have B1 := hx (Blk.at (w0.alloc (.cells zcf.toArray 50)) (w0.heap.size + 1) (by simp) zcf 50)
  have K1 := hx (((Kept.refl [] w0).alloc (.cells zcf.toArray 50)).alloc (.cells zcf.toArray 50))
  simp only [zcf, cfL] at B0 B1 K1
  generalize World.alloc (World.alloc w0 _) _ = w1 at *
  go_wp2_with (first
    | (refine load_blk rfl 50 (.tmp 6) rfl (w0.heap.size + 1) rfl 50 zcf _ B1.out Tryd.underlying50 rfl (by kernel_rfl) ?_)
    | (refine store_blk rfl 50 (.tmp 2) (.tmp 20) rfl w0.heap.size rfl 50 _ zcf rfl B0.out rfl (by kernel_rfl) (cf_one _ _ _ _ _ _ _ _ _ _ _) ?_; intro w4 hb4 hk4; have HB4 := hx hb4; have HK4 := hx hk4; clear hb4 hk4))
  exact bodyPost_ret (ret_cell4 rfl _ w0.heap.size _ _ _ _ _ _ rfl rfl rfl rfl HB4.out Tryd.underlying50 rfl (by kernel_rfl)) rfl ⟨K1.out.trans HK4.out (fun _ h => h) (fun x h => by simp at h; subst h; exact .inr (Nat.le_refl _)), rfl⟩
set_option maxRecDepth 100000 in
set_option maxHeartbeats 12800000 in
theorem rparset_short (text : List UInt8) (w0 : World) (hl : text.length ≤ 65536) :
    Calls Tryd.prog 21 #[txt text] w0 fun e w' => RaQ (parseF ([], []) 0 (lineS text)) w0 e w' := by
  have hil : ¬ (65536 : Int) < (text.length : Int) := by omega
  have HL := hx hl
  obtain ⟨po, hpo⟩ : ∃ o, o = parseF ([], []) 0 (lineS text) := ⟨_, rfl⟩
  rw [← hpo]
  have HPO := hx hpo
  clear hpo hl
  go_enter Tryd.func21, Tryd.ntmps21
  go_upto_region 8 with fail
  have R0 := hx (show RaI w0 w0.heap.size ([], []) (.slice none 0 0) (((w0.alloc (.cells zcf.toArray 50)).alloc (.cells zcf.toArray 50)).alloc (.cells zcf.toArray 50)) from
    ⟨((Blk.new w0 zcf _).alloc _).alloc _, (Blk.at _ _ (by simp) zcf _).alloc _, Blk.at _ _ (by simp) zcf _, World.ownsRow_nil _ _ _ _, (((Kept.refl [] w0).alloc _).alloc _).alloc _, by simp⟩)
  simp only [zcf, cfL] at R0
  generalize World.alloc (World.alloc (World.alloc w0 _) _) _ = W0 at *
  simp only [Nat.add_assoc, Nat.reduceAdd]
  generalize hz : w0.heap.size = z at *
  have HZ := hx hz
  clear hz
  go_loopw [8, 9, 10, 11] (fun av fv nv iv wr => ∃ (v : Value) (i : Nat) (pre : List (List UInt8)) (cur : List UInt8) (s : PSt), i ≤ text.length ∧ av = v ∧ fv = .int .i64 ((i - cur.length : Nat) : Int) ∧ nv = .int .i64 (pre.length : Int) ∧ iv = .int .i64 (i : Int) ∧ RaL text i pre cur s ∧ RaI w0 z s v wr) (fun _ _ _ iv _ => text.length - (intOf iv).toNat)
  case atStart => exact ⟨_, 0, [], [], ([], []), Nat.zero_le _, rfl, rfl, rfl, rfl, ⟨LnI.start text, AtP.nil, ⟨by simp, fun i ns h => by simp at h⟩, ⟨by simp, fun x h => by simp at h⟩, rfl⟩, R0.out⟩
  case round =>
    obtain ⟨v, i, pre, cur, s, hi, rfl, rfl, rfl, rfl, hL, hR⟩ := hrel
    have HRL := hx hL
    have HR := hx hR
    have hi6 : i ≤ 65536 := by have := HL.out; omega
    have hp6 : pre.length ≤ 65536 := by have := hL.ln.pl; omega
    have HIL := hx hi
    by_cases hlt : i < text.length
    · have hilt : (i : Int) < (text.length : Int) := by omega
      obtain ⟨c, hcc⟩ : ∃ c, text[i]? = some c := ⟨_, List.getElem?_eq_getElem hlt⟩
      have hix : ∀ X, (Instr.index 9 (txt text) (.int .i64 (i : Int))).run Tryd.prog X = .ok (.int .u8 (c.toNat : Int)) X := fun X => idx_txt hcc X
      have HLT := hx hlt
      have HCC := hx hcc
      clear hi hL hR hlt hcc
      by_cases h10 : c = 10
      · subst h10
        have hix2 : ∀ X, (Instr.index 9 (txt text) (.int .i64 (i : Int))).run Tryd.prog X = .ok (.int .u8 10) X := hix
        have hsl := slice_mid HRL.out.ln HIL.out
        have HLN := hx (HRL.out.ln.next HCC.out)
        have HMO := hx (show ∃ more, lineS text = pre ++ cur :: more from ⟨lineS (text.drop (i + 1)), by have h := HLN.out.ls; simpa using h⟩)
        have HSC := hx (fun (t : PSt) (h : stepP s cur = .ok t) => step_cnt h HRL.out.n4)
        clear hix
        generalize i - cur.length = fr at *
        have LD := hx (fun (W : World) (h : RaI w0 z s u8 W) => h.p2)
        by_cases h4 : s.1.length < 4
        · have hn4 : s.1.length = pre.length := by have := HRL.out.n4; omega
          have hnl : (pre.length : Int) < 4 := by omega
          have HN4 := hx hn4
          have HHD := hx (fun w1 => rhead_cf s.1 h4 HRL.out.hd cur w1)
          rw [hn4] at HHD
          cases hq : hlL pre.length cur with
          | none =>
            have HST := hx (show stepP s cur = .error 320 by unfold stepP; rw [if_pos h4, hn4, hq])
            rw [hq] at HHD
            have hpl : pre.length < 4 := by omega
            clear hq h4 hn4
            generalize hn : pre.length = n at *
            have HNN := hx hn
            clear hn
            go_wp2_with (first
              | (refine load_blk rfl 50 (.tmp 7) rfl (z + 2) rfl 50 (cfOf s.1) _ HR.out.p2 Tryd.underlying50 rfl (by kernel_rfl) ?_)
              | (go_at_call 43; refine (HHD.out _).mono ?_; rintro e w1 ⟨X, ⟨a1, a2, a3, a4, a5, a6, a7, a8, a9, a10, a11, rfl⟩, rfl, _, hk⟩; have R1 := hx (HR.out.kept hk); clear hk)
              | (refine store_blk rfl 50 (.tmp 13) (.tmp 47) rfl w1.heap.size rfl 50 _ (cfL a1 a2 a3 a4 a5 a6 a7 a8 a9 a10 a11) rfl (Blk.new w1 zcf 50) rfl (by kernel_rfl) (cf_one _ _ _ _ _ _ _ _ _ _ _) ?_; intro w2 hb2 hk2; have R2 := hx (R1.out.kept (((Kept.refl [] w1).alloc (.cells zcf.toArray 50)).trans hk2 (ds := []) (fun _ h => h) (fun x h => by simp at h; subst h; exact .inr (Nat.le_refl _)))); clear hb2 hk2)
              | (refine load_blk rfl 50 (.tmp 6) rfl (z + 1) rfl 50 zcf _ R2.out.p1 Tryd.underlying50 rfl (by kernel_rfl) ?_)
              | (refine store_blk rfl 50 (.tmp 2) (.tmp 51) rfl z rfl 50 _ zcf rfl R2.out.p0 rfl (by kernel_rfl) (cf_one _ _ _ _ _ _ _ _ _ _ _) ?_; intro w4 hb4 hk4; have HB4 := hx hb4; have HK4 := hx hk4; clear hb4 hk4))
            have hpe := HPO.out
            obtain ⟨more, hm⟩ := HMO.out
            rw [hm, HRL.out.at_.bad HST.out more, HNN.out] at hpe
            exact rend_bad hpe HZ.out R2.out HB4.out HK4.out rfl rfl rfl rfl
          | some ns =>
            have HST := hx (show stepP s cur = .ok (s.1 ++ [ns], s.2) by unfold stepP; rw [if_pos h4, hn4, hq])
            have HHS := hx (HRL.out.hd.snoc h4 (by rw [hn4]; exact hq))
            rw [hq] at HHD
            have hpl : pre.length < 4 := by omega
            clear hq h4 hn4
            generalize hn : pre.length = n at *
            have HNN := hx hn
            clear hn
            go_wp2_with (first
              | (refine load_blk rfl 50 (.tmp 7) rfl (z + 2) rfl 50 (cfOf s.1) _ HR.out.p2 Tryd.underlying50 rfl (by kernel_rfl) ?_)
              | (go_at_call 43; refine (HHD.out _).mono ?_; rintro e w1 ⟨X, ⟨a1, a2, a3, a4, a5, a6, a7, a8, a9, a10, a11, rfl⟩, rfl, hX, hk⟩; have R1 := hx (HR.out.kept hk); have HX := hx (hX ns rfl); clear hk hX)
              | (refine store_blk rfl 50 (.tmp 13) (.tmp 47) rfl w1.heap.size rfl 50 _ (cfL a1 a2 a3 a4 a5 a6 a7 a8 a9 a10 a11) rfl (Blk.new w1 zcf 50) rfl (by kernel_rfl) (cf_one _ _ _ _ _ _ _ _ _ _ _) ?_; intro w2 hb2 hk2; have B2 := hx hb2; have R2 := hx (R1.out.kept (((Kept.refl [] w1).alloc (.cells zcf.toArray 50)).trans hk2 (ds := []) (fun _ h => h) (fun x h => by simp at h; subst h; exact .inr (Nat.le_refl _)))); clear hb2 hk2)
              | (refine load_blk rfl 50 (.tmp 13) rfl w1.heap.size rfl 50 (cfL a1 a2 a3 a4 a5 a6 a7 a8 a9 a10 a11) _ B2.out Tryd.underlying50 rfl (by kernel_rfl) ?_)
              | (refine store_blk rfl 50 (.tmp 7) (.tmp 53) rfl (z + 2) rfl 50 _ (cfL a1 a2 a3 a4 a5 a6 a7 a8 a9 a10 a11) rfl R2.out.p2 rfl (by kernel_rfl) (cf_one _ _ _ _ _ _ _ _ _ _ _) ?_; intro w4 hb4 hk4; have HB4 := hx hb4; have HK4 := hx hk4; clear hb4 hk4))
            go_roundw
            case rel =>
              have hb4 := HB4.out
              rw [HX.out] at hb4
              have hk4 := HK4.out
              have r2 := R2.out
              refine ⟨_, i + 1, pre ++ [cur], [], (s.1 ++ [ns], s.2), HLT.out, rfl, by simp, by rw [List.length_append, HNN.out]; simp, by push_cast; rfl, ⟨HLN.out, HRL.out.at_.next HST.out, HHS.out, HRL.out.xs, n4_next (HSC.out _ HST.out) HNN.out⟩,
                ⟨hk4.blk r2.p0 (by simp), hk4.blk r2.p1 (by simp), hb4, own_set2 r2.ar hk4 (fun b hb => by simp at hb; omega), r2.k0.trans hk4 (ds := []) (fun _ h => h) (fun x h => by simp at h; subst h; exact .inr (by have := HZ.out; omega)), Nat.le_trans r2.sz hk4.size⟩⟩
            case measure =>
              simp only [intOf]
              have h := HLT.out
              omega
        · have hn4 : 4 ≤ pre.length := by have := HRL.out.n4; omega
          have hnl : ¬ ((pre.length : Int) + 1 ≤ 4) := by omega
          have HPL := hx (fun w1 => rparse_any cur w1)
          rw [← parse_eq] at HPL
          clear hn4
          cases hq : parseL cur with
          | none =>
            have HST := hx (show stepP s cur = .error 320 by unfold stepP; rw [if_neg h4, hq])
            rw [hq] at HPL
            dsimp only [resV] at HPL
            clear hq h4
            generalize hn : pre.length = n at *
            have HNN := hx hn
            clear hn
            go_wp2_with (first
              | (go_at_call 16; refine (HPL.out _).mono ?_; rintro e w1 ⟨rfl, hk⟩; have R1 := hx (HR.out.kept hk); clear hk)
              | (refine store_blk rfl 28 (.tmp 15) (.tmp 57) rfl w1.heap.size rfl 28 _ (ints (base6 0)) rfl (Blk.new w1 (ints (base6 0)) 28) rfl (infoAct' _ rfl) (ints_one _) ?_; intro w2 hb2 hk2; have R2 := hx (R1.out.kept (((Kept.refl [] w1).alloc (.cells (ints (base6 0)).toArray 28)).trans hk2 (ds := []) (fun _ h => h) (fun x h => by simp at h; subst h; exact .inr (Nat.le_refl _)))); clear hb2 hk2)
              | (refine load_blk rfl 50 (.tmp 6) rfl (z + 1) rfl 50 zcf _ R2.out.p1 Tryd.underlying50 rfl (by kernel_rfl) ?_)
              | (refine store_blk rfl 50 (.tmp 2) (.tmp 61) rfl z rfl 50 _ zcf rfl R2.out.p0 rfl (by kernel_rfl) (cf_one _ _ _ _ _ _ _ _ _ _ _) ?_; intro w4 hb4 hk4; have HB4 := hx hb4; have HK4 := hx hk4; clear hb4 hk4))
            have hpe := HPO.out
            obtain ⟨more, hm⟩ := HMO.out
            rw [hm, HRL.out.at_.bad HST.out more, HNN.out] at hpe
            exact rend_bad hpe HZ.out R2.out HB4.out HK4.out rfl rfl rfl rfl
          | some x =>
            have HXL := hx (parse_in6 hq).1
            obtain ⟨q1, q2, q3, q4, q5, q6, rfl⟩ := six (parse_in6 hq).1
            obtain ⟨aa, ac, rfl⟩ := own_sl HR.out.ar
            rw [hq] at HPL
            dsimp only [resV] at HPL
            by_cases h40 : 4096 ≤ s.2.length
            · have hil2 : (4096 : Int) ≤ (s.2.length : Int) := by omega
              have HST := hx (show stepP s cur = .error 2 by unfold stepP; rw [if_neg h4, hq]; exact if_pos h40)
              clear hq h4 h40
              generalize hn : pre.length = n at *
              have HNN := hx hn
              clear hn
              go_wp2_with (first
                | (go_at_call 16; refine (HPL.out _).mono ?_; rintro e w1 ⟨rfl, hk⟩; have R1 := hx (HR.out.kept hk); clear hk)
                | (refine store_blk rfl 28 (.tmp 15) (.tmp 57) rfl w1.heap.size rfl 28 _ (ints [q1, q2, q3, q4, q5, q6]) rfl (Blk.new w1 (ints (base6 0)) 28) rfl (infoAct' _ rfl) (ints_one _) ?_; intro w2 hb2 hk2; have R2 := hx (R1.out.kept (((Kept.refl [] w1).alloc (.cells (ints (base6 0)).toArray 28)).trans hk2 (ds := []) (fun _ h => h) (fun x h => by simp at h; subst h; exact .inr (Nat.le_refl _)))); clear hb2 hk2)
                | (refine load_blk rfl 50 (.tmp 6) rfl (z + 1) rfl 50 zcf _ R2.out.p1 Tryd.underlying50 rfl (by kernel_rfl) ?_)
                | (refine store_blk rfl 50 (.tmp 2) (.tmp 66) rfl z rfl 50 _ zcf rfl R2.out.p0 rfl (by kernel_rfl) (cf_one _ _ _ _ _ _ _ _ _ _ _) ?_; intro w4 hb4 hk4; have HB4 := hx hb4; have HK4 := hx hk4; clear hb4 hk4))
              have hpe := HPO.out
              obtain ⟨more, hm⟩ := HMO.out
              rw [hm, HRL.out.at_.bad HST.out more, HNN.out] at hpe
              exact rend_bad hpe HZ.out R2.out HB4.out HK4.out rfl rfl rfl rfl
            · have hil2 : ¬ (4096 : Int) ≤ (s.2.length : Int) := by omega
              have HST := hx (show stepP s cur = .ok (s.1, s.2 ++ [[q1, q2, q3, q4, q5, q6]]) by unfold stepP; rw [if_neg h4, hq]; exact if_neg h40)
              have HXS := hx (HRL.out.xs.snoc (by omega) hq)
              have H40 := hx h40
              clear hq h4 h40
              generalize hn : pre.length = n at *
              have HNN := hx hn
              clear hn
              go_wp2_with (first
                | (go_at_call 16; refine (HPL.out _).mono ?_; rintro e w1 ⟨rfl, hk⟩; have R1 := hx (HR.out.kept hk); clear hk)
                | (refine store_blk rfl 28 (.tmp 15) (.tmp 57) rfl w1.heap.size rfl 28 _ (ints [q1, q2, q3, q4, q5, q6]) rfl (Blk.new w1 (ints (base6 0)) 28) rfl (infoAct' _ rfl) (ints_one _) ?_; intro w2 hb2 hk2; have B2 := hx (show Blk w2 w1.heap.size [.int .i64 q1, .int .i64 q2, .int .i64 q3, .int .i64 q4, .int .i64 q5, .int .i64 q6] 28 from hb2); have R2 := hx (R1.out.kept (((Kept.refl [] w1).alloc (.cells (ints (base6 0)).toArray 28)).trans hk2 (ds := []) (fun _ h => h) (fun x h => by simp at h; subst h; exact .inr (Nat.le_refl _)))); clear hb2 hk2)
                | (refine load_blk rfl 28 (.tmp 15) rfl w1.heap.size rfl 28 _ _ B2.out Tryd.underlying28 rfl (by kernel_rfl) ?_)
                | (at_builtin; refine wpList_app rfl (.tmp 68) (.tmp 70) 44 rfl (z + 3) 28 (.agg (ints (base6 0)).toArray) 6 48 infoAc Tryd.underlying44 rfl (by omega) (.slice aa s.2.length ac) s.2.length (actsC s.2) rfl (World.ownsRow.alloc R2.out.ar _) (some ⟨_, 0, none⟩) 1 1 [.int .i64 q1, .int .i64 q2, .int .i64 q3, .int .i64 q4, .int .i64 q5, .int .i64 q6] rfl rfl (by simp) (by omega) (newsB (Blk.new _ [.int .i64 q1, .int .i64 q2, .int .i64 q3, .int .i64 q4, .int .i64 q5, .int .i64 q6] 28)) (ints_one [q1, q2, q3, q4, q5, q6]) (by have := H40.out; simp [maxLen]; omega) (by have := H40.out; omega) (by have := R2.out.sz; simp; omega) ?_; intro v8 w8 ho8 hg8; have HO8 := hx ho8; have HG8 := hx hg8; clear ho8 hg8))
              go_roundw
              case rel =>
                have r2 := R2.out
                have hg := HG8.out
                have hne : ∀ b, b < z + 3 → some b ≠ (Value.slice aa s.2.length ac).ownBlock := fun b hb e => by have := (own_celled r2.ar e.symm).1; omega
                refine ⟨_, i + 1, pre ++ [cur], [], (s.1, s.2 ++ [[q1, q2, q3, q4, q5, q6]]), HLT.out, rfl, by simp, by rw [List.length_append, HNN.out]; simp, by push_cast; rfl, ⟨HLN.out, HRL.out.at_.next HST.out, HRL.out.hd, HXS.out, n4_next (HSC.out _ HST.out) HNN.out⟩,
                  ⟨grown_blk hg (r2.p0.alloc _) (hne _ (by omega)), grown_blk hg (r2.p1.alloc _) (hne _ (by omega)), grown_blk hg (r2.p2.alloc _) (hne _ (by omega)), by rw [actsC_snoc, List.length_append]; exact HO8.out, (r2.k0.alloc _).grown hg (fun j hj => .inr (by have := (own_celled r2.ar hj).1; have := HZ.out; omega)), by have := hg.size; have := r2.sz; simp at *; omega⟩⟩
              case measure =>
                simp only [intOf]
                have h := HLT.out
                omega
      · have hix2 : (((c.toNat : Int)) == 10) = false := by
          rw [beq_eq_false_iff_ne]
          intro h
          exact h10 (UInt8.toNat_inj.1 (by show c.toNat = 10; omega))
        have hne10 : ((c.toNat : Int) != 10) = true := by rw [bne, hix2]; rfl
        have HMR := hx (HRL.out.ln.more HCC.out h10)
        clear h10
        generalize hn : pre.length = n at *
        have HNN := hx hn
        have HLE := hx HRL.out.ln.le
        clear hn
        generalize hf : i - cur.length = fr at *
        have HF := hx hf
        clear hf
        go_wp2_with fail
        go_roundw
        case rel =>
          refine ⟨_, i + 1, pre, cur ++ [c], s, HLT.out, rfl, ?_, by rw [HNN.out], by push_cast; rfl, ⟨HMR.out, HRL.out.at_, HRL.out.hd, HRL.out.xs, HRL.out.n4⟩, HR.out⟩
          rw [← HF.out, List.length_append, List.length_singleton, show i + 1 - (cur.length + 1) = i - cur.length by omega]
        case measure =>
          simp only [intOf]
          have h := HLT.out
          omega
    · have hie : i = text.length := by omega
      subst hie
      have hilt : ¬ ((text.length : Int) < (text.length : Int)) := by omega
      have hdn := hL.ln.done
      have hpo := HPO.out
      rw [hdn] at hpo
      have hle := hL.ln.le
      by_cases hc : cur = []
      · subst hc
        rw [show lineS [] = [] from rfl, List.append_nil, hL.at_.done] at hpo
        by_cases h4 : s.1.length < 4
        · have hn4 : (pre.length : Int) < 4 := by have := hL.n4; omega
          rw [if_pos h4] at hpo
          have HPE := hx hpo
          clear hi hL hR hlt hdn hpo hle h4 HPO
          simp only [List.length_nil, Nat.sub_zero]
          generalize hn : pre.length = n at *
          clear hn
          go_wp2_with (first
            | (refine load_blk rfl 50 (.tmp 6) rfl (z + 1) rfl 50 zcf _ HR.out.p1 Tryd.underlying50 rfl (by kernel_rfl) ?_)
            | (refine store_blk rfl 50 (.tmp 2) (.tmp 80) rfl z rfl 50 _ zcf rfl HR.out.p0 rfl (by kernel_rfl) (cf_one _ _ _ _ _ _ _ _ _ _ _) ?_; intro w4 hb4 hk4; have HB4 := hx hb4; have HK4 := hx hk4; clear hb4 hk4))
          exact rend_bad HPE.out HZ.out HR.out HB4.out HK4.out rfl rfl rfl rfl
        · have hn4 : ¬ (pre.length : Int) < 4 := by have := hL.n4; omega
          rw [if_neg h4] at hpo
          have HPE := hx hpo
          have HXS := hx hL.xs
          clear hi hL hR hlt hdn hpo hle h4 HPO
          simp only [List.length_nil, Nat.sub_zero]
          generalize hn : pre.length = n at *
          clear hn
          go_wp2_with (first
            | (refine load_blk rfl 50 (.tmp 7) rfl (z + 2) rfl 50 (cfOf s.1) _ HR.out.p2 Tryd.underlying50 rfl (by kernel_rfl) ?_)
            | (refine store_blk rfl 50 (.tmp 2) (.tmp 83) rfl z rfl 50 _ (cfOf s.1) rfl HR.out.p0 rfl (by kernel_rfl) (cf_one _ _ _ _ _ _ _ _ _ _ _) ?_; intro w4 hb4 hk4; have HB4 := hx hb4; have HK4 := hx hk4; clear hb4 hk4))
          have hz := HZ.out
          obtain ⟨a, c, hav, hac⟩ := own_acr (own_set2 HR.out.ar HK4.out (fun b hb => by simp at hb; omega)) HXS.out
          refine bodyPost_ret (ret_cell4 rfl _ z _ _ _ _ _ _ rfl rfl rfl rfl HB4.out Tryd.underlying50 rfl (by kernel_rfl)) rfl ?_
          rw [HPE.out]
          exact ⟨HR.out.k0.trans HK4.out (ds := []) (fun _ h => h) (fun x h => by simp at h; subst h; exact .inr (by omega)), a, c, by rw [hav]; rfl, hac⟩
      · have hcl : 0 < cur.length := List.length_pos_iff.2 hc
        have hfl : ((text.length - cur.length : Nat) : Int) < (text.length : Int) := by omega
        rw [lineS_last hL.ln.nt hc, hL.at_.bad (step_ten s (by simp)) []] at hpo
        have HPE := hx hpo
        clear hi hL hR hlt hdn hpo hc hcl hle HPO
        generalize hn : pre.length = n at *
        generalize text.length - cur.length = fr at *
        clear hn
        go_wp2_with (first
          | (refine load_blk rfl 50 (.tmp 6) rfl (z + 1) rfl 50 zcf _ HR.out.p1 Tryd.underlying50 rfl (by kernel_rfl) ?_)
          | (refine store_blk rfl 50 (.tmp 2) (.tmp 80) rfl z rfl 50 _ zcf rfl HR.out.p0 rfl (by kernel_rfl) (cf_one _ _ _ _ _ _ _ _ _ _ _) ?_; intro w4 hb4 hk4; have HB4 := hx hb4; have HK4 := hx hk4; clear hb4 hk4))
        exact rend_bad HPE.out HZ.out HR.out HB4.out HK4.out rfl rfl rfl rfl
/-- The document's Parse. -/
theorem rparset_any (text : List UInt8) (w0 : World) :
    Calls Tryd.prog 21 #[txt text] w0 fun e w' => RaQ (parseP text) w0 e w' := by
  by_cases h : 65536 < text.length
  · exact rparset_long text w0 h
  · have h2 := rparset_short text w0 (by omega)
    unfold parseP
    rw [if_neg h]
    exact h2
/-- The program's Parse. -/
theorem pparse_any (text : List UInt8) (m : Int) (w0 : World) (hm : w0.cell? ⟨0, 0, none⟩ = some (.int .i64 m)) :
    Calls Tryd.prog 20 #[txt text] w0 fun e w' => PaQ (parseP text) w0 e w' := by
  by_cases h : 65536 < text.length
  · exact pparse_long text w0 h
  · have h2 := pparse_short text m w0 (by omega) hm
    unfold parseP
    rw [if_neg h]
    exact h2
end Go.Proofs.YtdfbofkdlgfblaaDoor
