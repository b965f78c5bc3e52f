/- The document's reading of one of the first lines. The document's head, walked. The document's head, of the first lines so far. -/
import Derived.Test.YtdfbofkdlgfblaaDoorSeD
import Derived.Test.YtdfbofkdlgfblaaDoorSdB
namespace Go.Proofs.YtdfbofkdlgfblaaDoor
open Go Go.RowKit
/-- What the document reads as a line's k-th number. -/
def lN (l : List UInt8) (k : Nat) : Int := if k = 0 then 0 else match (splitL l)[k]? with | some w => (progR w).1 | none => 0
def un32 (n : Int) : Int := n % 4294967296
def hdN (i : Nat) (l : List UInt8) : List Int := if i = 0 then [un32 (lN l 1), lN l 2, lN l 3] else if i = 1 then [lN l 1, lN l 2, lN l 3] else if i = 2 then [lN l 1, lN l 2] else [un32 (lN l 1), un32 (lN l 2)]
theorem u32_in (n : Int) : 0 ≤ un32 n ∧ un32 n < 4294967296 := by unfold un32; omega
theorem u32_64 (n : Int) : in64 (un32 n) := by have := u32_in n; unfold in64; omega
theorem u32_wrap2 (n : Int) : IntKind.i64.wrap (un32 n) = un32 n := IntWalk.i64_in _ (by have := u32_in n; omega)
theorem u32_small {n : Int} (h : smallI n = true) : un32 n = n := by
  simp only [smallI, Bool.and_eq_true, decide_eq_true_eq] at h
  unfold un32
  omega
theorem small_u32 (n : Int) : smallI (un32 n) = true := by
  have := u32_in n
  simp only [smallI, Bool.and_eq_true, decide_eq_true_eq]
  omega
theorem lN_in (l : List UInt8) (k : Nat) : in64 (lN l k) := by
  unfold lN
  split
  · unfold in64; omega
  · split
    · rename_i w _
      cases h : (progR w).2 with
      | true => exact (progR_true (v := (progR w).1) (by rw [← h])).1
      | false => rw [progR_false h]; show in64 0; unfold in64; omega
    · unfold in64; omega
theorem hd_in (i : Nat) (l : List UInt8) : ∀ n, n ∈ hdN i l → in64 n := by
  have := lN_in l
  intro n hn
  unfold hdN at hn
  repeat' split at hn
  all_goals
    simp only [List.mem_cons, List.not_mem_nil, or_false] at hn
    rcases hn with rfl | rfl | rfl
    all_goals first | exact this _ | exact u32_64 _
theorem hd_in2 (i : Nat) (l : List UInt8) : (hdN i l).length = headC i ∧ okN i (hdN i l) = true := by
  unfold hdN headC okN
  by_cases h0 : i = 0
  · simp [h0, small_u32]
  · by_cases h1 : i = 1
    · simp [h1]
    · by_cases h2 : i = 2
      · simp [h2]
      · simp [h0, h1, h2, small_u32]
theorem hd_eq {i : Nat} {l : List UInt8} (h : accL (headW i) (hdN i l) = l) : hlL i l = some (hdN i l) := by
  have h2 := hl_of (hd_in2 i l).1 (hd_in2 i l).2 (hd_in i l)
  rwa [h] at h2
theorem lN_of {l w0 : List UInt8} {ns : List Int} (h : splitL l = w0 :: ns.map numL) (h64 : ∀ n, n ∈ ns → in64 n) (k : Nat) : lN l (k + 1) = ns.getD k 0 := by
  unfold lN
  rw [if_neg (by omega), h, List.getElem?_cons_succ, List.getElem?_map, List.getD_eq_getElem?_getD]
  cases hk : ns[k]? with
  | none => rfl
  | some n =>
    dsimp only [Option.map_some, Option.getD_some]
    rw [progR_num (h64 n (List.mem_of_getElem? hk))]
theorem hd_some {i : Nat} (hi : i < 4) {l : List UInt8} {ns : List Int} (h : hlL i l = some ns) : hdN i l = ns := by
  obtain ⟨hl, ho, h64, hs⟩ := hl_some h
  have e := lN_of hs h64
  have hcs : i = 0 ∨ i = 1 ∨ i = 2 ∨ i = 3 := by omega
  rcases hcs with rfl | rfl | rfl | rfl
  · match ns, hl with
    | [a, b, c], _ =>
      have e0 : lN l 1 = a := e 0
      have e1 : lN l 2 = b := e 1
      have e2 : lN l 3 = c := e 2
      have e3 : un32 a = a := u32_small ho
      simp [hdN, e0, e1, e2, e3]
  · match ns, hl with
    | [a, b, c], _ => simp [hdN, e 0, e 1, e 2]
  · match ns, hl with
    | [a, b], _ => simp [hdN, e 0, e 1]
  · match ns, hl with
    | [a, b], _ =>
      have ho' : (smallI a && smallI b) = true := ho
      simp only [Bool.and_eq_true] at ho'
      have e0 : lN l 1 = a := e 0
      have e1 : lN l 2 = b := e 1
      have e3 : un32 a = a := u32_small ho'.1
      have e4 : un32 b = b := u32_small ho'.2
      simp [hdN, e0, e1, e3, e4]
theorem hl_len {i : Nat} {l : List UInt8} {ns : List Int} (h : hlL i l = some ns) : l.length ≤ 200 := by
  obtain ⟨hl, _, h64, hs⟩ := hl_some h
  have h1 := join_len 20 (splitL l) (fun w hw => by
    rw [hs] at hw
    rcases List.mem_cons.1 hw with rfl | hw
    · unfold headW; repeat' split
      all_goals decide
    · obtain ⟨n, hn, rfl⟩ := List.mem_map.1 hw
      exact numL_len (h64 n hn))
  rw [join_split] at h1
  have h2 : (splitL l).length ≤ 4 := by
    rw [hs, List.length_cons, List.length_map, hl]
    unfold headC
    repeat' split
    all_goals omega
  have h3 : (splitL l).length * (20 + 1) ≤ 4 * 21 := Nat.mul_le_mul_right 21 h2
  omega
/-- The document's answer. -/
theorem hd_iff {i : Nat} (hi : i < 4) (l : List UInt8) : hlL i l = if accL (headW i) (hdN i l) = l then some (hdN i l) else none := by
  by_cases h : accL (headW i) (hdN i l) = l
  · rw [if_pos h, hd_eq h]
  · rw [if_neg h]
    cases hn : hlL i l with
    | none => rfl
    | some ns =>
      refine absurd ?_ h
      rw [hd_some hi hn]
      exact (hl_acc hn).symm
def hdC (i : Nat) (l : List UInt8) (ses tok seed del ahe siz age mos rat bur : Int) : List Value :=
  if i = 0 then cfL ses tok (un32 (lN l 1)) 0 (lN l 2) (lN l 3) siz age mos rat bur
  else if i = 1 then cfL ses tok seed 0 del ahe (lN l 1) (lN l 2) (lN l 3) rat bur
  else if i = 2 then cfL ses tok seed 0 del ahe siz age mos (lN l 1) (lN l 2)
  else cfL (un32 (lN l 1)) (un32 (lN l 2)) seed 0 del ahe siz age mos rat bur
/-- The config behind one line more. -/
theorem hdC_of (hs : List (List Int)) (h : hs.length < 4) (l : List UInt8) :
    hdC hs.length l (gN hs 3 0) (gN hs 3 1) (gN hs 0 0) (gN hs 0 1) (gN hs 0 2) (gN hs 1 0) (gN hs 1 1) (gN hs 1 2) (gN hs 2 0) (gN hs 2 1) = cfOf (hs ++ [hdN hs.length l]) := by
  match hs, h with
  | [], _ => rfl
  | [_], _ => rfl
  | [_, _], _ => rfl
  | [_, _, _], _ => rfl
theorem index4 (a b c d : List UInt8) (k : Nat) (v : List UInt8) (X : World) (h : [a, b, c, d][k]? = some v) :
    (Instr.index 91 (.agg #[txt a, txt b, txt c, txt d]) (.int .i64 (k : Int))).run Tryd.prog X = .ok (txt v) X := by
  have hk : k < 4 := (List.getElem?_eq_some_iff.1 h).1
  have hcs : k = 0 ∨ k = 1 ∨ k = 2 ∨ k = 3 := by omega
  rcases hcs with rfl | rfl | rfl | rfl
  all_goals
    simp only [List.getElem?_cons_zero, List.getElem?_cons_succ, Option.some.injEq] at h
    subst h
    simp [Instr.index, run_underlying Tryd.underlying91, asIntOf, go_sem]
/-- A store of a whole struct, among others. -/
theorem store_blkV {P : Program} {w : World} {o : Oper} {a : Act} {K : Act → World → Prop} {Q : Exit → Act → World → Prop} (ty : TypeId) (x y : Operand) (ho : o.op = .store ty x y)
    (g : Nat) (hx : a.eval x = .pointer (some ⟨g, 0, none⟩)) (T : TypeId) (xs ys : List Value) (hy : a.eval y = .agg ys.toArray) (hb : Blk w g xs T) (hl : ys.length = xs.length)
    (hi : (P.info? ty).map (·.size) = some ys.length) (h1 : ∀ v ∈ ys, v.oneCell' = true)
    (h : ∀ w', Blk w' g ys T → Kept [g] w w' → K (a.put o.dst undef) w') : o.wp P a w K Q :=
  wp_store_mid ty x y ho g 0 ys.toArray hx hy (hb.there (by simp [hl])) (by simpa using hi) (all_oneCell_toArray h1)
    (h _ (by
      have e := hb.setCells 0 ys
      rw [setAll_all _ _ hl] at e
      simpa using e) ((Kept.refl _ _).setCells (by simp) 0 _))
end Go.Proofs.YtdfbofkdlgfblaaDoor
namespace Go.Proofs.YtdfbofkdlgfblaaDoor
open Go Go.RowKit
/-- The numbers, as far as they are read. -/
def arrL (l : List UInt8) (k : Nat) : List Value := [.int .i64 0, .int .i64 (if 1 < k then lN l 1 else 0), .int .i64 (if 2 < k then lN l 2 else 0), .int .i64 (if 3 < k then lN l 3 else 0)]
theorem arrL_set (l : List UInt8) {k : Nat} (h1 : 1 ≤ k) (h4 : k < 4) : (arrL l k).set k (.int .i64 (lN l k)) = arrL l (k + 1) := by
  have hcs : k = 1 ∨ k = 2 ∨ k = 3 := by omega
  rcases hcs with rfl | rfl | rfl <;> rfl
theorem arrL_out {l : List UInt8} {k : Nat} (h : (splitL l).length ≤ k) : arrL l k = [.int .i64 0, .int .i64 (lN l 1), .int .i64 (lN l 2), .int .i64 (lN l 3)] := by
  have hz : ∀ j, k ≤ j → 1 ≤ j → lN l j = 0 := fun j hj h1 => by
    unfold lN
    rw [if_neg (by omega), List.getElem?_eq_none (by omega)]
  unfold arrL
  have e : ∀ j, 1 ≤ j → (if j < k then lN l j else 0) = lN l j := fun j h1 => by
    by_cases hj : j < k
    · rw [if_pos hj]
    · rw [if_neg hj, hz j (by omega) h1]
  rw [e 1 (by omega), e 2 (by omega), e 3 (by omega)]
theorem arrL_four (l : List UInt8) : arrL l 4 = [.int .i64 0, .int .i64 (lN l 1), .int .i64 (lN l 2), .int .i64 (lN l 3)] := rfl
set_option maxRecDepth 100000 in
set_option maxHeartbeats 12800000 in
theorem rhead_0 (l : List UInt8) (hl : l.length ≤ 200) (ses tok seed del ahe siz age mos rat bur : Int) (w : World)
    (h0 : in64 ses) (h1 : in64 tok) (_h2 : in64 seed) (_h4 : in64 del) (_h5 : in64 ahe) (h6 : in64 siz) (h7 : in64 age) (h8 : in64 mos) (h9 : in64 rat) (h10 : in64 bur) (_hs1 : IntKind.i64.wrap seed = seed) (hs2 : IntKind.i64.wrap ses = ses) (hs3 : IntKind.i64.wrap tok = tok) :
    Calls Tryd.prog 43 #[.agg #[.int .u32 ses, .int .u32 tok, .int .u32 seed, .int .i64 0, .int .i64 del, .int .i64 ahe, .int .i64 siz, .int .i64 age, .int .i64 mos, .int .i64 rat, .int .i64 bur], .int .i64 0, txt l] w fun e w' =>
      e = .returned (.tuple #[.agg (hdC 0 l ses tok seed del ahe siz age mos rat bur).toArray, .bool (accL (headW 0) (hdN 0 l) == l)]) ∧ Kept [] w w' := by
  have hl200 : ¬ (200 : Int) < (l.length : Int) := by omega
  have HC := hx (fun w1 => cut_any l w1 hl)
  have HH0 := hx (fun w1 => rheads_L ses tok (un32 (lN l 1)) 0 (lN l 2) (lN l 3) siz age mos rat bur w1 h0 h1 (u32_64 _) (lN_in _ _) (lN_in _ _) h6 h7 h8 h9 h10 (u32_wrap2 _) hs2 hs3)
  have HSN := hx (splitL_len l)
  have HL := hx hl
  clear h0 h1 _h2 _h4 _h5 h6 h7 h8 h9 h10 _hs1 hs2 hs3 hl
  go_enter Tryd.func43, Tryd.ntmps43
  go_upto_region 3 with fail
  have B3 := hx ((Blk.new w [.int .u32 ses, .int .u32 tok, .int .u32 seed, .int .i64 0, .int .i64 del, .int .i64 ahe, .int .i64 siz, .int .i64 age, .int .i64 mos, .int .i64 rat, .int .i64 bur] 50).alloc (.cells (cfL 0 0 0 0 0 0 0 0 0 0 0).toArray 50))
  have B6 := hx (Blk.at (w.alloc (.cells #[.int .u32 ses, .int .u32 tok, .int .u32 seed, .int .i64 0, .int .i64 del, .int .i64 ahe, .int .i64 siz, .int .i64 age, .int .i64 mos, .int .i64 rat, .int .i64 bur] 50)) (w.heap.size + 1) (by simp) (cfL 0 0 0 0 0 0 0 0 0 0 0) 50)
  have K1 := hx (((Kept.refl [] w).alloc (.cells #[.int .u32 ses, .int .u32 tok, .int .u32 seed, .int .i64 0, .int .i64 del, .int .i64 ahe, .int .i64 siz, .int .i64 age, .int .i64 mos, .int .i64 rat, .int .i64 bur] 50)).alloc (.cells (cfL 0 0 0 0 0 0 0 0 0 0 0).toArray 50))
  simp only [cfL] at B3 B6 K1
  generalize World.alloc (World.alloc w _) _ = w1 at *
  go_upto_region 4 with (go_at_call 32; refine (HC.out _).mono ?_; rintro e w2 ⟨v, rfl, ho, hk⟩; obtain ⟨g, cap, cur, rfl, hg, hB, htk, _⟩ := own_blk1 ho (by rcases hsp : splitL l with _ | ⟨a, b⟩; exact absurd hsp (splitL_ne l); simp); have K2 := hx (K1.out.trans0 hk); have B32 := hx (hk.blk B3.out (by simp)); have B62 := hx (hk.blk B6.out (by simp)); have HB := hx hB; have HTK := hx htk; clear ho hk hg hB htk)
  clear HC B3 B6 K1
  have B9 := hx (Blk.new w2 [.int .i64 0, .int .i64 0, .int .i64 0, .int .i64 0] 106)
  have K9 := hx (K2.out.alloc (.cells #[.int .i64 0, .int .i64 0, .int .i64 0, .int .i64 0] 106))
  have B39 := hx (B32.out.alloc (.cells #[.int .i64 0, .int .i64 0, .int .i64 0, .int .i64 0] 106))
  have B69 := hx (B62.out.alloc (.cells #[.int .i64 0, .int .i64 0, .int .i64 0, .int .i64 0] 106))
  have HB9 := hx (HB.out.alloc (.cells #[.int .i64 0, .int .i64 0, .int .i64 0, .int .i64 0] 106))
  have HN := hx (And.intro B32.out.lt (And.intro B62.out.lt (And.intro HB.out.lt K2.out.size)))
  generalize hn : (splitL l).length = n at *
  have HNN := hx hn
  clear hn K2 B32 B62 HB
  go_wp2_with fail
  generalize World.alloc w2 _ = W at *
  generalize w2.heap.size = b9 at *
  go_loopw [10] (fun kv wr => ∃ k : Nat, 1 ≤ k ∧ k ≤ 4 ∧ kv = .int .i64 (k : Int) ∧ Blk wr b9 (arrL l k) 106 ∧ Kept [b9] W wr) (fun kv _ => 5 - (intOf kv).toNat)
  case atStart => exact ⟨1, by omega, by omega, rfl, B9.out, Kept.refl _ _⟩
  case round =>
    obtain ⟨k, hk1, hk4, rfl, hb, hk⟩ := hrel
    have HBK := hx hb
    have HK := hx hk
    have hn201 : n ≤ 201 := by have := HSN.out; have := HL.out; omega
    clear hb hk
    by_cases hlt : k < n ∧ k < 4
    · have hil : (k : Int) < (n : Int) := by omega
      have hil4 : (k : Int) < 4 := by omega
      obtain ⟨x, hxx⟩ : ∃ x, (splitL l)[k]? = some x := ⟨_, List.getElem?_eq_getElem (by have := HNN.out; omega)⟩
      have hcl : wr.cell? ⟨g, k, none⟩ = some (txt x) := by
        apply (HK.out.blk HB9.out (by have := HN.out; simp; omega)).cell
        have h2 := txts_get hxx
        rw [← HTK.out, List.getElem?_take_of_lt hlt.1] at h2
        exact h2
      have HRD := hx (rread_any x wr)
      rw [← read_eq] at HRD
      have HLX := hx (show lN l k = (progR x).1 by unfold lN; rw [if_neg (by omega), hxx])
      have HKB := hx (And.intro hk1 hlt)
      have cb := HBK.out.free k
      clear hk1 hk4 hlt hxx
      go_wp2_with (go_at_call 12; refine HRD.out.mono ?_; rintro e w3 ⟨rfl, hk3⟩; have HK3 := hx (HK.out.trans0 hk3); have HB3 := hx (hk3.blk HBK.out (by simp)); obtain ⟨v9, hv9⟩ : ∃ v, (arrL l k)[k]? = some v := ⟨_, List.getElem?_eq_getElem (by have := HKB.out; simp [arrL]; omega)⟩; have c9 := HB3.out.cell hv9; have f9 := HB3.out.free k; clear hk3)
      go_roundw
      case rel =>
        have hh := HKB.out
        refine ⟨k + 1, by omega, by omega, by push_cast; rfl, ?_, HK3.out.setCell (.inl (by simp)) _⟩
        have h2 := HB3.out.set k (.int .i64 (progR x).1)
        rw [← HLX.out, arrL_set l hh.1 hh.2.2] at h2
        rw [← HLX.out]
        exact h2
      case measure =>
        simp only [intOf]
        have h := HKB.out
        omega
    · have hba : arrL l k = [.int .i64 0, .int .i64 (lN l 1), .int .i64 (lN l 2), .int .i64 (lN l 3)] := by
        by_cases hkn : k < n
        · have : k = 4 := by omega
          subst this
          rfl
        · exact arrL_out (by have := HNN.out; omega)
      rw [hba] at HBK
      have KW := hx (K9.out.trans HK.out (ds := []) (fun _ h => h) (fun x h => by simp at h; subst h; exact .inr HN.out.2.2.2))
      have B3 := hx (HK.out.blk B39.out (by have := HN.out; simp; omega))
      have B6 := hx (HK.out.blk B69.out (by have := HN.out; simp; omega))
      clear hba HK K9 B39 B69 HB9 B9 HTK HNN HSN HL
      have e1 := HBK.out.cell (i := 1) rfl
      have e2 := HBK.out.cell (i := 2) rfl
      have e3 := HBK.out.cell (i := 3) rfl
      have d2 := B3.out.cell (i := 2) rfl
      have f2 := B3.out.free 2
      have d4 := B3.out.cell (i := 4) rfl
      have f4 := B3.out.free 4
      have d5 := B3.out.cell (i := 5) rfl
      have f5 := B3.out.free 5
      have hne : ¬ w.heap.size = b9 := by have := HN.out; omega
      have hne2 : ¬ b9 = w.heap.size := by have := HN.out; omega
      by_cases hkn : k < n
      · have hil : (k : Int) < (n : Int) := by omega
        have hil4 : ¬ (k : Int) < 4 := by omega
        clear hlt hkn
        go_upto_region 12 with fail
        go_region
        have B35 := hx ((((B3.out.set 2 (.int .u32 (lN l 1 % 4294967296))).set 4 (.int .i64 (lN l 2))).set 5 (.int .i64 (lN l 3))).drew)
        have B65 := hx ((((B6.out.set_ne (a := ⟨w.heap.size, 2, none⟩) (by simp) (.int .u32 (lN l 1 % 4294967296))).set_ne (a := ⟨w.heap.size, 4, none⟩) (by simp) (.int .i64 (lN l 2))).set_ne (a := ⟨w.heap.size, 5, none⟩) (by simp) (.int .i64 (lN l 3))).drew)
        have K5 := hx ((((KW.out.setCell (p := ⟨w.heap.size, 2, none⟩) (.inr (by simp)) (.int .u32 (lN l 1 % 4294967296))).setCell (p := ⟨w.heap.size, 4, none⟩) (.inr (by simp)) (.int .i64 (lN l 2))).setCell (p := ⟨w.heap.size, 5, none⟩) (.inr (by simp)) (.int .i64 (lN l 3))).drew)
        simp only [List.set_cons_zero, List.set_cons_succ] at B35
        clear B3 B6 KW HBK e1 e2 e3 d2 f2 d4 f4 d5 f5
        generalize World.drew _ = W5 at *
        generalize hz : w.heap.size = z at *
        have HSK := hx (fun (w3 : World) (hk : Kept [] W5 w3) => show (fun w3 => w3.cell? ⟨z, 0, none⟩ = some (.int .u32 ses) ∧ w3.cell? ⟨z, 1, none⟩ = some (.int .u32 tok) ∧ w3.cell? ⟨z, 2, none⟩ = some (.int .u32 (lN l 1 % 4294967296)) ∧ w3.cell? ⟨z, 3, none⟩ = some (.int .i64 0) ∧ w3.cell? ⟨z, 4, none⟩ = some (.int .i64 (lN l 2)) ∧ w3.cell? ⟨z, 5, none⟩ = some (.int .i64 (lN l 3)) ∧ w3.cell? ⟨z, 6, none⟩ = some (.int .i64 siz) ∧ w3.cell? ⟨z, 7, none⟩ = some (.int .i64 age) ∧ w3.cell? ⟨z, 8, none⟩ = some (.int .i64 mos) ∧ w3.cell? ⟨z, 9, none⟩ = some (.int .i64 rat) ∧ w3.cell? ⟨z, 10, none⟩ = some (.int .i64 bur)) w3 from (by have hb := hk.blk B35.out (by simp); exact ⟨hb.cell (i := 0) rfl, hb.cell (i := 1) rfl, hb.cell (i := 2) rfl, hb.cell (i := 3) rfl, hb.cell (i := 4) rfl, hb.cell (i := 5) rfl, hb.cell (i := 6) rfl, hb.cell (i := 7) rfl, hb.cell (i := 8) rfl, hb.cell (i := 9) rfl, hb.cell (i := 10) rfl⟩))
        have hix : ∀ X, (Instr.index 91 (.agg #[txt (headL (ses) (tok) ((un32 (lN l 1))) ((lN l 2)) ((lN l 3)) (siz) (age) (mos) (rat) (bur) 0), txt (headL (ses) (tok) ((un32 (lN l 1))) ((lN l 2)) ((lN l 3)) (siz) (age) (mos) (rat) (bur) 1), txt (headL (ses) (tok) ((un32 (lN l 1))) ((lN l 2)) ((lN l 3)) (siz) (age) (mos) (rat) (bur) 2), txt (headL (ses) (tok) ((un32 (lN l 1))) ((lN l 2)) ((lN l 3)) (siz) (age) (mos) (rat) (bur) 3)]) (.int .i64 0)).run Tryd.prog X = .ok (txt (headL (ses) (tok) ((un32 (lN l 1))) ((lN l 2)) ((lN l 3)) (siz) (age) (mos) (rat) (bur) 0)) X := fun X => index4 _ _ _ _ 0 _ X rfl
        go_upto_region 17 with fail
        refine wp_region_held_drew (S := (fun w3 => w3.cell? ⟨z, 0, none⟩ = some (.int .u32 ses) ∧ w3.cell? ⟨z, 1, none⟩ = some (.int .u32 tok) ∧ w3.cell? ⟨z, 2, none⟩ = some (.int .u32 (lN l 1 % 4294967296)) ∧ w3.cell? ⟨z, 3, none⟩ = some (.int .i64 0) ∧ w3.cell? ⟨z, 4, none⟩ = some (.int .i64 (lN l 2)) ∧ w3.cell? ⟨z, 5, none⟩ = some (.int .i64 (lN l 3)) ∧ w3.cell? ⟨z, 6, none⟩ = some (.int .i64 siz) ∧ w3.cell? ⟨z, 7, none⟩ = some (.int .i64 age) ∧ w3.cell? ⟨z, 8, none⟩ = some (.int .i64 mos) ∧ w3.cell? ⟨z, 9, none⟩ = some (.int .i64 rat) ∧ w3.cell? ⟨z, 10, none⟩ = some (.int .i64 bur))) (by kernel_rfl) (HSK.out _ ((Kept.refl [] W5).drew)) (fun hHeld => ?_)
        refine take_by 0 77 (v := ?_) rfl rfl (by kernel_rfl) (by kernel_rfl) (by kernel_rfl) (fun _ _ _ h => h) (Or.inl ⟨by rfl, ?_⟩) (by assumption) ?_
        rotate_left
        · (intro w hSw; (try dsimp only at hSw); go_simp; try with_reducible rfl)
        try simp only [List.setIfInBounds_toArray, List.set_cons_zero, List.set_cons_succ]
        refine take_by 1 78 (v := ?_) rfl rfl (by kernel_rfl) (by kernel_rfl) (by kernel_rfl) (fun _ _ _ h => h) (Or.inl ⟨by rfl, ?_⟩) (by assumption) ?_
        rotate_left
        · (intro w hSw; (try dsimp only at hSw); go_simp; try with_reducible rfl)
        try simp only [List.setIfInBounds_toArray, List.set_cons_zero, List.set_cons_succ]
        refine take_by 3 80 (v := ?_) rfl rfl (by kernel_rfl) (by kernel_rfl) (by kernel_rfl) (fun _ _ _ h => h) (Or.inl ⟨by rfl, ?_⟩) (by assumption) ?_
        rotate_left
        · (intro w hSw; (try dsimp only at hSw); go_simp; try with_reducible rfl)
        try simp only [List.setIfInBounds_toArray, List.set_cons_zero, List.set_cons_succ]
        refine take_by 5 82 (v := ?_) rfl rfl (by kernel_rfl) (by kernel_rfl) (by kernel_rfl) (fun _ _ _ h => h) (Or.inl ⟨by rfl, ?_⟩) (by assumption) ?_
        rotate_left
        · (intro w hSw; (try dsimp only at hSw); go_simp; try with_reducible rfl)
        try simp only [List.setIfInBounds_toArray, List.set_cons_zero, List.set_cons_succ]
        refine wpAnyH_ready (rs := [2]) (by kernel_rfl) (by simp) ?_
        refine AllReadyH.cons rfl (fun K hK => ?_) AllReadyH.nil
        go_simp
        (go_at_call 39; refine (HH0.out _).mono ?_; rintro e w4 ⟨rfl, hk4⟩; have HK4 := hx (show Kept [] W5 w4 from (Kept.drew (Kept.refl [] W5)).trans0 hk4); have hS4 := HSK.out _ HK4.out; clear hk4)
        refine hK.out _ _ (hS4) (fun hHeld => ?_)
        clear hK K
        try simp only [Act.put, List.setIfInBounds_toArray, List.set_cons_zero, List.set_cons_succ]
        refine take_by 4 81 (v := ?_) rfl rfl (by kernel_rfl) (by kernel_rfl) (by kernel_rfl) (fun _ _ _ h => h) (Or.inl ⟨by rfl, ?_⟩) (by assumption) ?_
        rotate_left
        · (intro w hSw; (try dsimp only at hSw); go_simp; try with_reducible rfl)
        try simp only [List.setIfInBounds_toArray, List.set_cons_zero, List.set_cons_succ]
        refine take_by 6 83 (v := ?_) rfl rfl (by kernel_rfl) (by kernel_rfl) (by kernel_rfl) (fun _ _ _ h => h) (Or.inl ⟨by rfl, ?_⟩) (by assumption) ?_
        rotate_left
        · (intro w hSw; (try dsimp only at hSw); go_simp; try with_reducible rfl)
        try simp only [List.setIfInBounds_toArray, List.set_cons_zero, List.set_cons_succ]
        refine wpAnyH_ready (rs := [7]) (by kernel_rfl) (by simp) ?_
        refine AllReadyH.cons rfl (fun K hK => ?_) AllReadyH.nil
        refine store_blkV 50 (.tmp 6) (.tmp 77) rfl (z + 1) rfl 50 _ [.int .u32 ses, .int .u32 tok, .int .u32 (lN l 1 % 4294967296), .int .i64 0, .int .i64 (lN l 2), .int .i64 (lN l 3), .int .i64 siz, .int .i64 age, .int .i64 mos, .int .i64 rat, .int .i64 bur] rfl (HK4.out.blk B65.out (by simp)) rfl (by kernel_rfl) (cf_one _ _ _ _ _ _ _ _ _ _ _) ?_
        intro w6 hb6 hk6
        have HB6 := hx hb6
        have HK6 := hx hk6
        have B36 := hx (hk6.blk (HK4.out.blk B35.out (by simp)) (by simp))
        refine hK.out _ _ (⟨B36.out.cell (i := 0) rfl, B36.out.cell (i := 1) rfl, B36.out.cell (i := 2) rfl, B36.out.cell (i := 3) rfl, B36.out.cell (i := 4) rfl, B36.out.cell (i := 5) rfl, B36.out.cell (i := 6) rfl, B36.out.cell (i := 7) rfl, B36.out.cell (i := 8) rfl, B36.out.cell (i := 9) rfl, B36.out.cell (i := 10) rfl⟩) (fun hHeld => ?_)
        clear hK K
        try simp only [Act.put, List.setIfInBounds_toArray]
        refine take_by 8 7 (v := ?_) rfl rfl (by kernel_rfl) (by kernel_rfl) (by kernel_rfl) (fun _ _ _ h => h) (Or.inl ⟨by rfl, ?_⟩) (by assumption) ?_
        rotate_left
        · (intro w hSw; (try dsimp only at hSw); go_simp; try with_reducible rfl)
        try simp only [List.setIfInBounds_toArray, List.set_cons_zero, List.set_cons_succ]
        refine wpAnyH_done (by kernel_rfl) ?_ _
        go_wp2_with fail
        refine bodyPost_ret (ret_blk2 rfl _ (z + 1) _ _ _ _ rfl rfl HB6.out Tryd.underlying50 rfl (by kernel_rfl)) rfl ⟨rfl, (K5.out.trans0 HK4.out).trans HK6.out (ds := []) (fun _ h => h) (fun x h => by simp at h; subst h; exact .inr (by omega))⟩
      · have hil : ¬ (k : Int) < (n : Int) := by omega
        clear hlt hkn
        go_upto_region 12 with fail
        go_region
        have B35 := hx ((((B3.out.set 2 (.int .u32 (lN l 1 % 4294967296))).set 4 (.int .i64 (lN l 2))).set 5 (.int .i64 (lN l 3))).drew)
        have B65 := hx ((((B6.out.set_ne (a := ⟨w.heap.size, 2, none⟩) (by simp) (.int .u32 (lN l 1 % 4294967296))).set_ne (a := ⟨w.heap.size, 4, none⟩) (by simp) (.int .i64 (lN l 2))).set_ne (a := ⟨w.heap.size, 5, none⟩) (by simp) (.int .i64 (lN l 3))).drew)
        have K5 := hx ((((KW.out.setCell (p := ⟨w.heap.size, 2, none⟩) (.inr (by simp)) (.int .u32 (lN l 1 % 4294967296))).setCell (p := ⟨w.heap.size, 4, none⟩) (.inr (by simp)) (.int .i64 (lN l 2))).setCell (p := ⟨w.heap.size, 5, none⟩) (.inr (by simp)) (.int .i64 (lN l 3))).drew)
        simp only [List.set_cons_zero, List.set_cons_succ] at B35
        clear B3 B6 KW HBK e1 e2 e3 d2 f2 d4 f4 d5 f5
        generalize World.drew _ = W5 at *
        generalize hz : w.heap.size = z at *
        have HSK := hx (fun (w3 : World) (hk : Kept [] W5 w3) => show (fun w3 => w3.cell? ⟨z, 0, none⟩ = some (.int .u32 ses) ∧ w3.cell? ⟨z, 1, none⟩ = some (.int .u32 tok) ∧ w3.cell? ⟨z, 2, none⟩ = some (.int .u32 (lN l 1 % 4294967296)) ∧ w3.cell? ⟨z, 3, none⟩ = some (.int .i64 0) ∧ w3.cell? ⟨z, 4, none⟩ = some (.int .i64 (lN l 2)) ∧ w3.cell? ⟨z, 5, none⟩ = some (.int .i64 (lN l 3)) ∧ w3.cell? ⟨z, 6, none⟩ = some (.int .i64 siz) ∧ w3.cell? ⟨z, 7, none⟩ = some (.int .i64 age) ∧ w3.cell? ⟨z, 8, none⟩ = some (.int .i64 mos) ∧ w3.cell? ⟨z, 9, none⟩ = some (.int .i64 rat) ∧ w3.cell? ⟨z, 10, none⟩ = some (.int .i64 bur)) w3 from (by have hb := hk.blk B35.out (by simp); exact ⟨hb.cell (i := 0) rfl, hb.cell (i := 1) rfl, hb.cell (i := 2) rfl, hb.cell (i := 3) rfl, hb.cell (i := 4) rfl, hb.cell (i := 5) rfl, hb.cell (i := 6) rfl, hb.cell (i := 7) rfl, hb.cell (i := 8) rfl, hb.cell (i := 9) rfl, hb.cell (i := 10) rfl⟩))
        have hix : ∀ X, (Instr.index 91 (.agg #[txt (headL (ses) (tok) ((un32 (lN l 1))) ((lN l 2)) ((lN l 3)) (siz) (age) (mos) (rat) (bur) 0), txt (headL (ses) (tok) ((un32 (lN l 1))) ((lN l 2)) ((lN l 3)) (siz) (age) (mos) (rat) (bur) 1), txt (headL (ses) (tok) ((un32 (lN l 1))) ((lN l 2)) ((lN l 3)) (siz) (age) (mos) (rat) (bur) 2), txt (headL (ses) (tok) ((un32 (lN l 1))) ((lN l 2)) ((lN l 3)) (siz) (age) (mos) (rat) (bur) 3)]) (.int .i64 0)).run Tryd.prog X = .ok (txt (headL (ses) (tok) ((un32 (lN l 1))) ((lN l 2)) ((lN l 3)) (siz) (age) (mos) (rat) (bur) 0)) X := fun X => index4 _ _ _ _ 0 _ X rfl
        go_upto_region 17 with fail
        refine wp_region_held_drew (S := (fun w3 => w3.cell? ⟨z, 0, none⟩ = some (.int .u32 ses) ∧ w3.cell? ⟨z, 1, none⟩ = some (.int .u32 tok) ∧ w3.cell? ⟨z, 2, none⟩ = some (.int .u32 (lN l 1 % 4294967296)) ∧ w3.cell? ⟨z, 3, none⟩ = some (.int .i64 0) ∧ w3.cell? ⟨z, 4, none⟩ = some (.int .i64 (lN l 2)) ∧ w3.cell? ⟨z, 5, none⟩ = some (.int .i64 (lN l 3)) ∧ w3.cell? ⟨z, 6, none⟩ = some (.int .i64 siz) ∧ w3.cell? ⟨z, 7, none⟩ = some (.int .i64 age) ∧ w3.cell? ⟨z, 8, none⟩ = some (.int .i64 mos) ∧ w3.cell? ⟨z, 9, none⟩ = some (.int .i64 rat) ∧ w3.cell? ⟨z, 10, none⟩ = some (.int .i64 bur))) (by kernel_rfl) (HSK.out _ ((Kept.refl [] W5).drew)) (fun hHeld => ?_)
        refine take_by 0 77 (v := ?_) rfl rfl (by kernel_rfl) (by kernel_rfl) (by kernel_rfl) (fun _ _ _ h => h) (Or.inl ⟨by rfl, ?_⟩) (by assumption) ?_
        rotate_left
        · (intro w hSw; (try dsimp only at hSw); go_simp; try with_reducible rfl)
        try simp only [List.setIfInBounds_toArray, List.set_cons_zero, List.set_cons_succ]
        refine take_by 1 78 (v := ?_) rfl rfl (by kernel_rfl) (by kernel_rfl) (by kernel_rfl) (fun _ _ _ h => h) (Or.inl ⟨by rfl, ?_⟩) (by assumption) ?_
        rotate_left
        · (intro w hSw; (try dsimp only at hSw); go_simp; try with_reducible rfl)
        try simp only [List.setIfInBounds_toArray, List.set_cons_zero, List.set_cons_succ]
        refine take_by 3 80 (v := ?_) rfl rfl (by kernel_rfl) (by kernel_rfl) (by kernel_rfl) (fun _ _ _ h => h) (Or.inl ⟨by rfl, ?_⟩) (by assumption) ?_
        rotate_left
        · (intro w hSw; (try dsimp only at hSw); go_simp; try with_reducible rfl)
        try simp only [List.setIfInBounds_toArray, List.set_cons_zero, List.set_cons_succ]
        refine take_by 5 82 (v := ?_) rfl rfl (by kernel_rfl) (by kernel_rfl) (by kernel_rfl) (fun _ _ _ h => h) (Or.inl ⟨by rfl, ?_⟩) (by assumption) ?_
        rotate_left
        · (intro w hSw; (try dsimp only at hSw); go_simp; try with_reducible rfl)
        try simp only [List.setIfInBounds_toArray, List.set_cons_zero, List.set_cons_succ]
        refine wpAnyH_ready (rs := [2]) (by kernel_rfl) (by simp) ?_
        refine AllReadyH.cons rfl (fun K hK => ?_) AllReadyH.nil
        go_simp
        (go_at_call 39; refine (HH0.out _).mono ?_; rintro e w4 ⟨rfl, hk4⟩; have HK4 := hx (show Kept [] W5 w4 from (Kept.drew (Kept.refl [] W5)).trans0 hk4); have hS4 := HSK.out _ HK4.out; clear hk4)
        refine hK.out _ _ (hS4) (fun hHeld => ?_)
        clear hK K
        try simp only [Act.put, List.setIfInBounds_toArray, List.set_cons_zero, List.set_cons_succ]
        refine take_by 4 81 (v := ?_) rfl rfl (by kernel_rfl) (by kernel_rfl) (by kernel_rfl) (fun _ _ _ h => h) (Or.inl ⟨by rfl, ?_⟩) (by assumption) ?_
        rotate_left
        · (intro w hSw; (try dsimp only at hSw); go_simp; try with_reducible rfl)
        try simp only [List.setIfInBounds_toArray, List.set_cons_zero, List.set_cons_succ]
        refine take_by 6 83 (v := ?_) rfl rfl (by kernel_rfl) (by kernel_rfl) (by kernel_rfl) (fun _ _ _ h => h) (Or.inl ⟨by rfl, ?_⟩) (by assumption) ?_
        rotate_left
        · (intro w hSw; (try dsimp only at hSw); go_simp; try with_reducible rfl)
        try simp only [List.setIfInBounds_toArray, List.set_cons_zero, List.set_cons_succ]
        refine wpAnyH_ready (rs := [7]) (by kernel_rfl) (by simp) ?_
        refine AllReadyH.cons rfl (fun K hK => ?_) AllReadyH.nil
        refine store_blkV 50 (.tmp 6) (.tmp 77) rfl (z + 1) rfl 50 _ [.int .u32 ses, .int .u32 tok, .int .u32 (lN l 1 % 4294967296), .int .i64 0, .int .i64 (lN l 2), .int .i64 (lN l 3), .int .i64 siz, .int .i64 age, .int .i64 mos, .int .i64 rat, .int .i64 bur] rfl (HK4.out.blk B65.out (by simp)) rfl (by kernel_rfl) (cf_one _ _ _ _ _ _ _ _ _ _ _) ?_
        intro w6 hb6 hk6
        have HB6 := hx hb6
        have HK6 := hx hk6
        have B36 := hx (hk6.blk (HK4.out.blk B35.out (by simp)) (by simp))
        refine hK.out _ _ (⟨B36.out.cell (i := 0) rfl, B36.out.cell (i := 1) rfl, B36.out.cell (i := 2) rfl, B36.out.cell (i := 3) rfl, B36.out.cell (i := 4) rfl, B36.out.cell (i := 5) rfl, B36.out.cell (i := 6) rfl, B36.out.cell (i := 7) rfl, B36.out.cell (i := 8) rfl, B36.out.cell (i := 9) rfl, B36.out.cell (i := 10) rfl⟩) (fun hHeld => ?_)
        clear hK K
        try simp only [Act.put, List.setIfInBounds_toArray]
        refine take_by 8 7 (v := ?_) rfl rfl (by kernel_rfl) (by kernel_rfl) (by kernel_rfl) (fun _ _ _ h => h) (Or.inl ⟨by rfl, ?_⟩) (by assumption) ?_
        rotate_left
        · (intro w hSw; (try dsimp only at hSw); go_simp; try with_reducible rfl)
        try simp only [List.setIfInBounds_toArray, List.set_cons_zero, List.set_cons_succ]
        refine wpAnyH_done (by kernel_rfl) ?_ _
        go_wp2_with fail
        refine bodyPost_ret (ret_blk2 rfl _ (z + 1) _ _ _ _ rfl rfl HB6.out Tryd.underlying50 rfl (by kernel_rfl)) rfl ⟨rfl, (K5.out.trans0 HK4.out).trans HK6.out (ds := []) (fun _ h => h) (fun x h => by simp at h; subst h; exact .inr (by omega))⟩
set_option maxRecDepth 100000 in
set_option maxHeartbeats 12800000 in
theorem rhead_1 (l : List UInt8) (hl : l.length ≤ 200) (ses tok seed del ahe siz age mos rat bur : Int) (w : World)
    (h0 : in64 ses) (h1 : in64 tok) (h2 : in64 seed) (h4 : in64 del) (h5 : in64 ahe) (_h6 : in64 siz) (_h7 : in64 age) (_h8 : in64 mos) (h9 : in64 rat) (h10 : in64 bur) (hs1 : IntKind.i64.wrap seed = seed) (hs2 : IntKind.i64.wrap ses = ses) (hs3 : IntKind.i64.wrap tok = tok) :
    Calls Tryd.prog 43 #[.agg #[.int .u32 ses, .int .u32 tok, .int .u32 seed, .int .i64 0, .int .i64 del, .int .i64 ahe, .int .i64 siz, .int .i64 age, .int .i64 mos, .int .i64 rat, .int .i64 bur], .int .i64 1, txt l] w fun e w' =>
      e = .returned (.tuple #[.agg (hdC 1 l ses tok seed del ahe siz age mos rat bur).toArray, .bool (accL (headW 1) (hdN 1 l) == l)]) ∧ Kept [] w w' := by
  have hl200 : ¬ (200 : Int) < (l.length : Int) := by omega
  have HC := hx (fun w1 => cut_any l w1 hl)
  have HH1 := hx (fun w1 => rheads_L ses tok seed 0 del ahe (lN l 1) (lN l 2) (lN l 3) rat bur w1 h0 h1 h2 h4 h5 (lN_in _ _) (lN_in _ _) (lN_in _ _) h9 h10 hs1 hs2 hs3)
  have HSN := hx (splitL_len l)
  have HL := hx hl
  clear h0 h1 h2 h4 h5 _h6 _h7 _h8 h9 h10 hs1 hs2 hs3 hl
  go_enter Tryd.func43, Tryd.ntmps43
  go_upto_region 3 with fail
  have B3 := hx ((Blk.new w [.int .u32 ses, .int .u32 tok, .int .u32 seed, .int .i64 0, .int .i64 del, .int .i64 ahe, .int .i64 siz, .int .i64 age, .int .i64 mos, .int .i64 rat, .int .i64 bur] 50).alloc (.cells (cfL 0 0 0 0 0 0 0 0 0 0 0).toArray 50))
  have B6 := hx (Blk.at (w.alloc (.cells #[.int .u32 ses, .int .u32 tok, .int .u32 seed, .int .i64 0, .int .i64 del, .int .i64 ahe, .int .i64 siz, .int .i64 age, .int .i64 mos, .int .i64 rat, .int .i64 bur] 50)) (w.heap.size + 1) (by simp) (cfL 0 0 0 0 0 0 0 0 0 0 0) 50)
  have K1 := hx (((Kept.refl [] w).alloc (.cells #[.int .u32 ses, .int .u32 tok, .int .u32 seed, .int .i64 0, .int .i64 del, .int .i64 ahe, .int .i64 siz, .int .i64 age, .int .i64 mos, .int .i64 rat, .int .i64 bur] 50)).alloc (.cells (cfL 0 0 0 0 0 0 0 0 0 0 0).toArray 50))
  simp only [cfL] at B3 B6 K1
  generalize World.alloc (World.alloc w _) _ = w1 at *
  go_upto_region 4 with (go_at_call 32; refine (HC.out _).mono ?_; rintro e w2 ⟨v, rfl, ho, hk⟩; obtain ⟨g, cap, cur, rfl, hg, hB, htk, _⟩ := own_blk1 ho (by rcases hsp : splitL l with _ | ⟨a, b⟩; exact absurd hsp (splitL_ne l); simp); have K2 := hx (K1.out.trans0 hk); have B32 := hx (hk.blk B3.out (by simp)); have B62 := hx (hk.blk B6.out (by simp)); have HB := hx hB; have HTK := hx htk; clear ho hk hg hB htk)
  clear HC B3 B6 K1
  have B9 := hx (Blk.new w2 [.int .i64 0, .int .i64 0, .int .i64 0, .int .i64 0] 106)
  have K9 := hx (K2.out.alloc (.cells #[.int .i64 0, .int .i64 0, .int .i64 0, .int .i64 0] 106))
  have B39 := hx (B32.out.alloc (.cells #[.int .i64 0, .int .i64 0, .int .i64 0, .int .i64 0] 106))
  have B69 := hx (B62.out.alloc (.cells #[.int .i64 0, .int .i64 0, .int .i64 0, .int .i64 0] 106))
  have HB9 := hx (HB.out.alloc (.cells #[.int .i64 0, .int .i64 0, .int .i64 0, .int .i64 0] 106))
  have HN := hx (And.intro B32.out.lt (And.intro B62.out.lt (And.intro HB.out.lt K2.out.size)))
  generalize hn : (splitL l).length = n at *
  have HNN := hx hn
  clear hn K2 B32 B62 HB
  go_wp2_with fail
  generalize World.alloc w2 _ = W at *
  generalize w2.heap.size = b9 at *
  go_loopw [10] (fun kv wr => ∃ k : Nat, 1 ≤ k ∧ k ≤ 4 ∧ kv = .int .i64 (k : Int) ∧ Blk wr b9 (arrL l k) 106 ∧ Kept [b9] W wr) (fun kv _ => 5 - (intOf kv).toNat)
  case atStart => exact ⟨1, by omega, by omega, rfl, B9.out, Kept.refl _ _⟩
  case round =>
    obtain ⟨k, hk1, hk4, rfl, hb, hk⟩ := hrel
    have HBK := hx hb
    have HK := hx hk
    have hn201 : n ≤ 201 := by have := HSN.out; have := HL.out; omega
    clear hb hk
    by_cases hlt : k < n ∧ k < 4
    · have hil : (k : Int) < (n : Int) := by omega
      have hil4 : (k : Int) < 4 := by omega
      obtain ⟨x, hxx⟩ : ∃ x, (splitL l)[k]? = some x := ⟨_, List.getElem?_eq_getElem (by have := HNN.out; omega)⟩
      have hcl : wr.cell? ⟨g, k, none⟩ = some (txt x) := by
        apply (HK.out.blk HB9.out (by have := HN.out; simp; omega)).cell
        have h2 := txts_get hxx
        rw [← HTK.out, List.getElem?_take_of_lt hlt.1] at h2
        exact h2
      have HRD := hx (rread_any x wr)
      rw [← read_eq] at HRD
      have HLX := hx (show lN l k = (progR x).1 by unfold lN; rw [if_neg (by omega), hxx])
      have HKB := hx (And.intro hk1 hlt)
      have cb := HBK.out.free k
      clear hk1 hk4 hlt hxx
      go_wp2_with (go_at_call 12; refine HRD.out.mono ?_; rintro e w3 ⟨rfl, hk3⟩; have HK3 := hx (HK.out.trans0 hk3); have HB3 := hx (hk3.blk HBK.out (by simp)); obtain ⟨v9, hv9⟩ : ∃ v, (arrL l k)[k]? = some v := ⟨_, List.getElem?_eq_getElem (by have := HKB.out; simp [arrL]; omega)⟩; have c9 := HB3.out.cell hv9; have f9 := HB3.out.free k; clear hk3)
      go_roundw
      case rel =>
        have hh := HKB.out
        refine ⟨k + 1, by omega, by omega, by push_cast; rfl, ?_, HK3.out.setCell (.inl (by simp)) _⟩
        have h2 := HB3.out.set k (.int .i64 (progR x).1)
        rw [← HLX.out, arrL_set l hh.1 hh.2.2] at h2
        rw [← HLX.out]
        exact h2
      case measure =>
        simp only [intOf]
        have h := HKB.out
        omega
    · have hba : arrL l k = [.int .i64 0, .int .i64 (lN l 1), .int .i64 (lN l 2), .int .i64 (lN l 3)] := by
        by_cases hkn : k < n
        · have : k = 4 := by omega
          subst this
          rfl
        · exact arrL_out (by have := HNN.out; omega)
      rw [hba] at HBK
      have KW := hx (K9.out.trans HK.out (ds := []) (fun _ h => h) (fun x h => by simp at h; subst h; exact .inr HN.out.2.2.2))
      have B3 := hx (HK.out.blk B39.out (by have := HN.out; simp; omega))
      have B6 := hx (HK.out.blk B69.out (by have := HN.out; simp; omega))
      clear hba HK K9 B39 B69 HB9 B9 HTK HNN HSN HL
      have e1 := HBK.out.cell (i := 1) rfl
      have e2 := HBK.out.cell (i := 2) rfl
      have e3 := HBK.out.cell (i := 3) rfl
      have d6 := B3.out.cell (i := 6) rfl
      have f6 := B3.out.free 6
      have d7 := B3.out.cell (i := 7) rfl
      have f7 := B3.out.free 7
      have d8 := B3.out.cell (i := 8) rfl
      have f8 := B3.out.free 8
      have hne : ¬ w.heap.size = b9 := by have := HN.out; omega
      have hne2 : ¬ b9 = w.heap.size := by have := HN.out; omega
      by_cases hkn : k < n
      · have hil : (k : Int) < (n : Int) := by omega
        have hil4 : ¬ (k : Int) < 4 := by omega
        clear hlt hkn
        go_upto_region 14 with fail
        go_region
        have B35 := hx ((((B3.out.set 6 (.int .i64 (lN l 1))).set 7 (.int .i64 (lN l 2))).set 8 (.int .i64 (lN l 3))).drew)
        have B65 := hx ((((B6.out.set_ne (a := ⟨w.heap.size, 6, none⟩) (by simp) (.int .i64 (lN l 1))).set_ne (a := ⟨w.heap.size, 7, none⟩) (by simp) (.int .i64 (lN l 2))).set_ne (a := ⟨w.heap.size, 8, none⟩) (by simp) (.int .i64 (lN l 3))).drew)
        have K5 := hx ((((KW.out.setCell (p := ⟨w.heap.size, 6, none⟩) (.inr (by simp)) (.int .i64 (lN l 1))).setCell (p := ⟨w.heap.size, 7, none⟩) (.inr (by simp)) (.int .i64 (lN l 2))).setCell (p := ⟨w.heap.size, 8, none⟩) (.inr (by simp)) (.int .i64 (lN l 3))).drew)
        simp only [List.set_cons_zero, List.set_cons_succ] at B35
        clear B3 B6 KW HBK e1 e2 e3 d6 f6 d7 f7 d8 f8
        generalize World.drew _ = W5 at *
        generalize hz : w.heap.size = z at *
        have HSK := hx (fun (w3 : World) (hk : Kept [] W5 w3) => show (fun w3 => w3.cell? ⟨z, 0, none⟩ = some (.int .u32 ses) ∧ w3.cell? ⟨z, 1, none⟩ = some (.int .u32 tok) ∧ w3.cell? ⟨z, 2, none⟩ = some (.int .u32 seed) ∧ w3.cell? ⟨z, 3, none⟩ = some (.int .i64 0) ∧ w3.cell? ⟨z, 4, none⟩ = some (.int .i64 del) ∧ w3.cell? ⟨z, 5, none⟩ = some (.int .i64 ahe) ∧ w3.cell? ⟨z, 6, none⟩ = some (.int .i64 (lN l 1)) ∧ w3.cell? ⟨z, 7, none⟩ = some (.int .i64 (lN l 2)) ∧ w3.cell? ⟨z, 8, none⟩ = some (.int .i64 (lN l 3)) ∧ w3.cell? ⟨z, 9, none⟩ = some (.int .i64 rat) ∧ w3.cell? ⟨z, 10, none⟩ = some (.int .i64 bur)) w3 from (by have hb := hk.blk B35.out (by simp); exact ⟨hb.cell (i := 0) rfl, hb.cell (i := 1) rfl, hb.cell (i := 2) rfl, hb.cell (i := 3) rfl, hb.cell (i := 4) rfl, hb.cell (i := 5) rfl, hb.cell (i := 6) rfl, hb.cell (i := 7) rfl, hb.cell (i := 8) rfl, hb.cell (i := 9) rfl, hb.cell (i := 10) rfl⟩))
        have hix : ∀ X, (Instr.index 91 (.agg #[txt (headL (ses) (tok) (seed) (del) (ahe) ((lN l 1)) ((lN l 2)) ((lN l 3)) (rat) (bur) 0), txt (headL (ses) (tok) (seed) (del) (ahe) ((lN l 1)) ((lN l 2)) ((lN l 3)) (rat) (bur) 1), txt (headL (ses) (tok) (seed) (del) (ahe) ((lN l 1)) ((lN l 2)) ((lN l 3)) (rat) (bur) 2), txt (headL (ses) (tok) (seed) (del) (ahe) ((lN l 1)) ((lN l 2)) ((lN l 3)) (rat) (bur) 3)]) (.int .i64 1)).run Tryd.prog X = .ok (txt (headL (ses) (tok) (seed) (del) (ahe) ((lN l 1)) ((lN l 2)) ((lN l 3)) (rat) (bur) 1)) X := fun X => index4 _ _ _ _ 1 _ X rfl
        go_upto_region 17 with fail
        refine wp_region_held_drew (S := (fun w3 => w3.cell? ⟨z, 0, none⟩ = some (.int .u32 ses) ∧ w3.cell? ⟨z, 1, none⟩ = some (.int .u32 tok) ∧ w3.cell? ⟨z, 2, none⟩ = some (.int .u32 seed) ∧ w3.cell? ⟨z, 3, none⟩ = some (.int .i64 0) ∧ w3.cell? ⟨z, 4, none⟩ = some (.int .i64 del) ∧ w3.cell? ⟨z, 5, none⟩ = some (.int .i64 ahe) ∧ w3.cell? ⟨z, 6, none⟩ = some (.int .i64 (lN l 1)) ∧ w3.cell? ⟨z, 7, none⟩ = some (.int .i64 (lN l 2)) ∧ w3.cell? ⟨z, 8, none⟩ = some (.int .i64 (lN l 3)) ∧ w3.cell? ⟨z, 9, none⟩ = some (.int .i64 rat) ∧ w3.cell? ⟨z, 10, none⟩ = some (.int .i64 bur))) (by kernel_rfl) (HSK.out _ ((Kept.refl [] W5).drew)) (fun hHeld => ?_)
        refine take_by 0 77 (v := ?_) rfl rfl (by kernel_rfl) (by kernel_rfl) (by kernel_rfl) (fun _ _ _ h => h) (Or.inl ⟨by rfl, ?_⟩) (by assumption) ?_
        rotate_left
        · (intro w hSw; (try dsimp only at hSw); go_simp; try with_reducible rfl)
        try simp only [List.setIfInBounds_toArray, List.set_cons_zero, List.set_cons_succ]
        refine take_by 1 78 (v := ?_) rfl rfl (by kernel_rfl) (by kernel_rfl) (by kernel_rfl) (fun _ _ _ h => h) (Or.inl ⟨by rfl, ?_⟩) (by assumption) ?_
        rotate_left
        · (intro w hSw; (try dsimp only at hSw); go_simp; try with_reducible rfl)
        try simp only [List.setIfInBounds_toArray, List.set_cons_zero, List.set_cons_succ]
        refine take_by 3 80 (v := ?_) rfl rfl (by kernel_rfl) (by kernel_rfl) (by kernel_rfl) (fun _ _ _ h => h) (Or.inl ⟨by rfl, ?_⟩) (by assumption) ?_
        rotate_left
        · (intro w hSw; (try dsimp only at hSw); go_simp; try with_reducible rfl)
        try simp only [List.setIfInBounds_toArray, List.set_cons_zero, List.set_cons_succ]
        refine take_by 5 82 (v := ?_) rfl rfl (by kernel_rfl) (by kernel_rfl) (by kernel_rfl) (fun _ _ _ h => h) (Or.inl ⟨by rfl, ?_⟩) (by assumption) ?_
        rotate_left
        · (intro w hSw; (try dsimp only at hSw); go_simp; try with_reducible rfl)
        try simp only [List.setIfInBounds_toArray, List.set_cons_zero, List.set_cons_succ]
        refine wpAnyH_ready (rs := [2]) (by kernel_rfl) (by simp) ?_
        refine AllReadyH.cons rfl (fun K hK => ?_) AllReadyH.nil
        go_simp
        (go_at_call 39; refine (HH1.out _).mono ?_; rintro e w4 ⟨rfl, hk4⟩; have HK4 := hx (show Kept [] W5 w4 from (Kept.drew (Kept.refl [] W5)).trans0 hk4); have hS4 := HSK.out _ HK4.out; clear hk4)
        refine hK.out _ _ (hS4) (fun hHeld => ?_)
        clear hK K
        try simp only [Act.put, List.setIfInBounds_toArray, List.set_cons_zero, List.set_cons_succ]
        refine take_by 4 81 (v := ?_) rfl rfl (by kernel_rfl) (by kernel_rfl) (by kernel_rfl) (fun _ _ _ h => h) (Or.inl ⟨by rfl, ?_⟩) (by assumption) ?_
        rotate_left
        · (intro w hSw; (try dsimp only at hSw); go_simp; try with_reducible rfl)
        try simp only [List.setIfInBounds_toArray, List.set_cons_zero, List.set_cons_succ]
        refine take_by 6 83 (v := ?_) rfl rfl (by kernel_rfl) (by kernel_rfl) (by kernel_rfl) (fun _ _ _ h => h) (Or.inl ⟨by rfl, ?_⟩) (by assumption) ?_
        rotate_left
        · (intro w hSw; (try dsimp only at hSw); go_simp; try with_reducible rfl)
        try simp only [List.setIfInBounds_toArray, List.set_cons_zero, List.set_cons_succ]
        refine wpAnyH_ready (rs := [7]) (by kernel_rfl) (by simp) ?_
        refine AllReadyH.cons rfl (fun K hK => ?_) AllReadyH.nil
        refine store_blkV 50 (.tmp 6) (.tmp 77) rfl (z + 1) rfl 50 _ [.int .u32 ses, .int .u32 tok, .int .u32 seed, .int .i64 0, .int .i64 del, .int .i64 ahe, .int .i64 (lN l 1), .int .i64 (lN l 2), .int .i64 (lN l 3), .int .i64 rat, .int .i64 bur] rfl (HK4.out.blk B65.out (by simp)) rfl (by kernel_rfl) (cf_one _ _ _ _ _ _ _ _ _ _ _) ?_
        intro w6 hb6 hk6
        have HB6 := hx hb6
        have HK6 := hx hk6
        have B36 := hx (hk6.blk (HK4.out.blk B35.out (by simp)) (by simp))
        refine hK.out _ _ (⟨B36.out.cell (i := 0) rfl, B36.out.cell (i := 1) rfl, B36.out.cell (i := 2) rfl, B36.out.cell (i := 3) rfl, B36.out.cell (i := 4) rfl, B36.out.cell (i := 5) rfl, B36.out.cell (i := 6) rfl, B36.out.cell (i := 7) rfl, B36.out.cell (i := 8) rfl, B36.out.cell (i := 9) rfl, B36.out.cell (i := 10) rfl⟩) (fun hHeld => ?_)
        clear hK K
        try simp only [Act.put, List.setIfInBounds_toArray]
        refine take_by 8 7 (v := ?_) rfl rfl (by kernel_rfl) (by kernel_rfl) (by kernel_rfl) (fun _ _ _ h => h) (Or.inl ⟨by rfl, ?_⟩) (by assumption) ?_
        rotate_left
        · (intro w hSw; (try dsimp only at hSw); go_simp; try with_reducible rfl)
        try simp only [List.setIfInBounds_toArray, List.set_cons_zero, List.set_cons_succ]
        refine wpAnyH_done (by kernel_rfl) ?_ _
        go_wp2_with fail
        refine bodyPost_ret (ret_blk2 rfl _ (z + 1) _ _ _ _ rfl rfl HB6.out Tryd.underlying50 rfl (by kernel_rfl)) rfl ⟨rfl, (K5.out.trans0 HK4.out).trans HK6.out (ds := []) (fun _ h => h) (fun x h => by simp at h; subst h; exact .inr (by omega))⟩
      · have hil : ¬ (k : Int) < (n : Int) := by omega
        clear hlt hkn
        go_upto_region 14 with fail
        go_region
        have B35 := hx ((((B3.out.set 6 (.int .i64 (lN l 1))).set 7 (.int .i64 (lN l 2))).set 8 (.int .i64 (lN l 3))).drew)
        have B65 := hx ((((B6.out.set_ne (a := ⟨w.heap.size, 6, none⟩) (by simp) (.int .i64 (lN l 1))).set_ne (a := ⟨w.heap.size, 7, none⟩) (by simp) (.int .i64 (lN l 2))).set_ne (a := ⟨w.heap.size, 8, none⟩) (by simp) (.int .i64 (lN l 3))).drew)
        have K5 := hx ((((KW.out.setCell (p := ⟨w.heap.size, 6, none⟩) (.inr (by simp)) (.int .i64 (lN l 1))).setCell (p := ⟨w.heap.size, 7, none⟩) (.inr (by simp)) (.int .i64 (lN l 2))).setCell (p := ⟨w.heap.size, 8, none⟩) (.inr (by simp)) (.int .i64 (lN l 3))).drew)
        simp only [List.set_cons_zero, List.set_cons_succ] at B35
        clear B3 B6 KW HBK e1 e2 e3 d6 f6 d7 f7 d8 f8
        generalize World.drew _ = W5 at *
        generalize hz : w.heap.size = z at *
        have HSK := hx (fun (w3 : World) (hk : Kept [] W5 w3) => show (fun w3 => w3.cell? ⟨z, 0, none⟩ = some (.int .u32 ses) ∧ w3.cell? ⟨z, 1, none⟩ = some (.int .u32 tok) ∧ w3.cell? ⟨z, 2, none⟩ = some (.int .u32 seed) ∧ w3.cell? ⟨z, 3, none⟩ = some (.int .i64 0) ∧ w3.cell? ⟨z, 4, none⟩ = some (.int .i64 del) ∧ w3.cell? ⟨z, 5, none⟩ = some (.int .i64 ahe) ∧ w3.cell? ⟨z, 6, none⟩ = some (.int .i64 (lN l 1)) ∧ w3.cell? ⟨z, 7, none⟩ = some (.int .i64 (lN l 2)) ∧ w3.cell? ⟨z, 8, none⟩ = some (.int .i64 (lN l 3)) ∧ w3.cell? ⟨z, 9, none⟩ = some (.int .i64 rat) ∧ w3.cell? ⟨z, 10, none⟩ = some (.int .i64 bur)) w3 from (by have hb := hk.blk B35.out (by simp); exact ⟨hb.cell (i := 0) rfl, hb.cell (i := 1) rfl, hb.cell (i := 2) rfl, hb.cell (i := 3) rfl, hb.cell (i := 4) rfl, hb.cell (i := 5) rfl, hb.cell (i := 6) rfl, hb.cell (i := 7) rfl, hb.cell (i := 8) rfl, hb.cell (i := 9) rfl, hb.cell (i := 10) rfl⟩))
        have hix : ∀ X, (Instr.index 91 (.agg #[txt (headL (ses) (tok) (seed) (del) (ahe) ((lN l 1)) ((lN l 2)) ((lN l 3)) (rat) (bur) 0), txt (headL (ses) (tok) (seed) (del) (ahe) ((lN l 1)) ((lN l 2)) ((lN l 3)) (rat) (bur) 1), txt (headL (ses) (tok) (seed) (del) (ahe) ((lN l 1)) ((lN l 2)) ((lN l 3)) (rat) (bur) 2), txt (headL (ses) (tok) (seed) (del) (ahe) ((lN l 1)) ((lN l 2)) ((lN l 3)) (rat) (bur) 3)]) (.int .i64 1)).run Tryd.prog X = .ok (txt (headL (ses) (tok) (seed) (del) (ahe) ((lN l 1)) ((lN l 2)) ((lN l 3)) (rat) (bur) 1)) X := fun X => index4 _ _ _ _ 1 _ X rfl
        go_upto_region 17 with fail
        refine wp_region_held_drew (S := (fun w3 => w3.cell? ⟨z, 0, none⟩ = some (.int .u32 ses) ∧ w3.cell? ⟨z, 1, none⟩ = some (.int .u32 tok) ∧ w3.cell? ⟨z, 2, none⟩ = some (.int .u32 seed) ∧ w3.cell? ⟨z, 3, none⟩ = some (.int .i64 0) ∧ w3.cell? ⟨z, 4, none⟩ = some (.int .i64 del) ∧ w3.cell? ⟨z, 5, none⟩ = some (.int .i64 ahe) ∧ w3.cell? ⟨z, 6, none⟩ = some (.int .i64 (lN l 1)) ∧ w3.cell? ⟨z, 7, none⟩ = some (.int .i64 (lN l 2)) ∧ w3.cell? ⟨z, 8, none⟩ = some (.int .i64 (lN l 3)) ∧ w3.cell? ⟨z, 9, none⟩ = some (.int .i64 rat) ∧ w3.cell? ⟨z, 10, none⟩ = some (.int .i64 bur))) (by kernel_rfl) (HSK.out _ ((Kept.refl [] W5).drew)) (fun hHeld => ?_)
        refine take_by 0 77 (v := ?_) rfl rfl (by kernel_rfl) (by kernel_rfl) (by kernel_rfl) (fun _ _ _ h => h) (Or.inl ⟨by rfl, ?_⟩) (by assumption) ?_
        rotate_left
        · (intro w hSw; (try dsimp only at hSw); go_simp; try with_reducible rfl)
        try simp only [List.setIfInBounds_toArray, List.set_cons_zero, List.set_cons_succ]
        refine take_by 1 78 (v := ?_) rfl rfl (by kernel_rfl) (by kernel_rfl) (by kernel_rfl) (fun _ _ _ h => h) (Or.inl ⟨by rfl, ?_⟩) (by assumption) ?_
        rotate_left
        · (intro w hSw; (try dsimp only at hSw); go_simp; try with_reducible rfl)
        try simp only [List.setIfInBounds_toArray, List.set_cons_zero, List.set_cons_succ]
        refine take_by 3 80 (v := ?_) rfl rfl (by kernel_rfl) (by kernel_rfl) (by kernel_rfl) (fun _ _ _ h => h) (Or.inl ⟨by rfl, ?_⟩) (by assumption) ?_
        rotate_left
        · (intro w hSw; (try dsimp only at hSw); go_simp; try with_reducible rfl)
        try simp only [List.setIfInBounds_toArray, List.set_cons_zero, List.set_cons_succ]
        refine take_by 5 82 (v := ?_) rfl rfl (by kernel_rfl) (by kernel_rfl) (by kernel_rfl) (fun _ _ _ h => h) (Or.inl ⟨by rfl, ?_⟩) (by assumption) ?_
        rotate_left
        · (intro w hSw; (try dsimp only at hSw); go_simp; try with_reducible rfl)
        try simp only [List.setIfInBounds_toArray, List.set_cons_zero, List.set_cons_succ]
        refine wpAnyH_ready (rs := [2]) (by kernel_rfl) (by simp) ?_
        refine AllReadyH.cons rfl (fun K hK => ?_) AllReadyH.nil
        go_simp
        (go_at_call 39; refine (HH1.out _).mono ?_; rintro e w4 ⟨rfl, hk4⟩; have HK4 := hx (show Kept [] W5 w4 from (Kept.drew (Kept.refl [] W5)).trans0 hk4); have hS4 := HSK.out _ HK4.out; clear hk4)
        refine hK.out _ _ (hS4) (fun hHeld => ?_)
        clear hK K
        try simp only [Act.put, List.setIfInBounds_toArray, List.set_cons_zero, List.set_cons_succ]
        refine take_by 4 81 (v := ?_) rfl rfl (by kernel_rfl) (by kernel_rfl) (by kernel_rfl) (fun _ _ _ h => h) (Or.inl ⟨by rfl, ?_⟩) (by assumption) ?_
        rotate_left
        · (intro w hSw; (try dsimp only at hSw); go_simp; try with_reducible rfl)
        try simp only [List.setIfInBounds_toArray, List.set_cons_zero, List.set_cons_succ]
        refine take_by 6 83 (v := ?_) rfl rfl (by kernel_rfl) (by kernel_rfl) (by kernel_rfl) (fun _ _ _ h => h) (Or.inl ⟨by rfl, ?_⟩) (by assumption) ?_
        rotate_left
        · (intro w hSw; (try dsimp only at hSw); go_simp; try with_reducible rfl)
        try simp only [List.setIfInBounds_toArray, List.set_cons_zero, List.set_cons_succ]
        refine wpAnyH_ready (rs := [7]) (by kernel_rfl) (by simp) ?_
        refine AllReadyH.cons rfl (fun K hK => ?_) AllReadyH.nil
        refine store_blkV 50 (.tmp 6) (.tmp 77) rfl (z + 1) rfl 50 _ [.int .u32 ses, .int .u32 tok, .int .u32 seed, .int .i64 0, .int .i64 del, .int .i64 ahe, .int .i64 (lN l 1), .int .i64 (lN l 2), .int .i64 (lN l 3), .int .i64 rat, .int .i64 bur] rfl (HK4.out.blk B65.out (by simp)) rfl (by kernel_rfl) (cf_one _ _ _ _ _ _ _ _ _ _ _) ?_
        intro w6 hb6 hk6
        have HB6 := hx hb6
        have HK6 := hx hk6
        have B36 := hx (hk6.blk (HK4.out.blk B35.out (by simp)) (by simp))
        refine hK.out _ _ (⟨B36.out.cell (i := 0) rfl, B36.out.cell (i := 1) rfl, B36.out.cell (i := 2) rfl, B36.out.cell (i := 3) rfl, B36.out.cell (i := 4) rfl, B36.out.cell (i := 5) rfl, B36.out.cell (i := 6) rfl, B36.out.cell (i := 7) rfl, B36.out.cell (i := 8) rfl, B36.out.cell (i := 9) rfl, B36.out.cell (i := 10) rfl⟩) (fun hHeld => ?_)
        clear hK K
        try simp only [Act.put, List.setIfInBounds_toArray]
        refine take_by 8 7 (v := ?_) rfl rfl (by kernel_rfl) (by kernel_rfl) (by kernel_rfl) (fun _ _ _ h => h) (Or.inl ⟨by rfl, ?_⟩) (by assumption) ?_
        rotate_left
        · (intro w hSw; (try dsimp only at hSw); go_simp; try with_reducible rfl)
        try simp only [List.setIfInBounds_toArray, List.set_cons_zero, List.set_cons_succ]
        refine wpAnyH_done (by kernel_rfl) ?_ _
        go_wp2_with fail
        refine bodyPost_ret (ret_blk2 rfl _ (z + 1) _ _ _ _ rfl rfl HB6.out Tryd.underlying50 rfl (by kernel_rfl)) rfl ⟨rfl, (K5.out.trans0 HK4.out).trans HK6.out (ds := []) (fun _ h => h) (fun x h => by simp at h; subst h; exact .inr (by omega))⟩
set_option maxRecDepth 100000 in
set_option maxHeartbeats 12800000 in
theorem rhead_2 (l : List UInt8) (hl : l.length ≤ 200) (ses tok seed del ahe siz age mos rat bur : Int) (w : World)
    (h0 : in64 ses) (h1 : in64 tok) (h2 : in64 seed) (h4 : in64 del) (h5 : in64 ahe) (h6 : in64 siz) (h7 : in64 age) (h8 : in64 mos) (_h9 : in64 rat) (_h10 : in64 bur) (hs1 : IntKind.i64.wrap seed = seed) (hs2 : IntKind.i64.wrap ses = ses) (hs3 : IntKind.i64.wrap tok = tok) :
    Calls Tryd.prog 43 #[.agg #[.int .u32 ses, .int .u32 tok, .int .u32 seed, .int .i64 0, .int .i64 del, .int .i64 ahe, .int .i64 siz, .int .i64 age, .int .i64 mos, .int .i64 rat, .int .i64 bur], .int .i64 2, txt l] w fun e w' =>
      e = .returned (.tuple #[.agg (hdC 2 l ses tok seed del ahe siz age mos rat bur).toArray, .bool (accL (headW 2) (hdN 2 l) == l)]) ∧ Kept [] w w' := by
  have hl200 : ¬ (200 : Int) < (l.length : Int) := by omega
  have HC := hx (fun w1 => cut_any l w1 hl)
  have HH2 := hx (fun w1 => rheads_L ses tok seed 0 del ahe siz age mos (lN l 1) (lN l 2) w1 h0 h1 h2 h4 h5 h6 h7 h8 (lN_in _ _) (lN_in _ _) hs1 hs2 hs3)
  have HSN := hx (splitL_len l)
  have HL := hx hl
  clear h0 h1 h2 h4 h5 h6 h7 h8 _h9 _h10 hs1 hs2 hs3 hl
  go_enter Tryd.func43, Tryd.ntmps43
  go_upto_region 3 with fail
  have B3 := hx ((Blk.new w [.int .u32 ses, .int .u32 tok, .int .u32 seed, .int .i64 0, .int .i64 del, .int .i64 ahe, .int .i64 siz, .int .i64 age, .int .i64 mos, .int .i64 rat, .int .i64 bur] 50).alloc (.cells (cfL 0 0 0 0 0 0 0 0 0 0 0).toArray 50))
  have B6 := hx (Blk.at (w.alloc (.cells #[.int .u32 ses, .int .u32 tok, .int .u32 seed, .int .i64 0, .int .i64 del, .int .i64 ahe, .int .i64 siz, .int .i64 age, .int .i64 mos, .int .i64 rat, .int .i64 bur] 50)) (w.heap.size + 1) (by simp) (cfL 0 0 0 0 0 0 0 0 0 0 0) 50)
  have K1 := hx (((Kept.refl [] w).alloc (.cells #[.int .u32 ses, .int .u32 tok, .int .u32 seed, .int .i64 0, .int .i64 del, .int .i64 ahe, .int .i64 siz, .int .i64 age, .int .i64 mos, .int .i64 rat, .int .i64 bur] 50)).alloc (.cells (cfL 0 0 0 0 0 0 0 0 0 0 0).toArray 50))
  simp only [cfL] at B3 B6 K1
  generalize World.alloc (World.alloc w _) _ = w1 at *
  go_upto_region 4 with (go_at_call 32; refine (HC.out _).mono ?_; rintro e w2 ⟨v, rfl, ho, hk⟩; obtain ⟨g, cap, cur, rfl, hg, hB, htk, _⟩ := own_blk1 ho (by rcases hsp : splitL l with _ | ⟨a, b⟩; exact absurd hsp (splitL_ne l); simp); have K2 := hx (K1.out.trans0 hk); have B32 := hx (hk.blk B3.out (by simp)); have B62 := hx (hk.blk B6.out (by simp)); have HB := hx hB; have HTK := hx htk; clear ho hk hg hB htk)
  clear HC B3 B6 K1
  have B9 := hx (Blk.new w2 [.int .i64 0, .int .i64 0, .int .i64 0, .int .i64 0] 106)
  have K9 := hx (K2.out.alloc (.cells #[.int .i64 0, .int .i64 0, .int .i64 0, .int .i64 0] 106))
  have B39 := hx (B32.out.alloc (.cells #[.int .i64 0, .int .i64 0, .int .i64 0, .int .i64 0] 106))
  have B69 := hx (B62.out.alloc (.cells #[.int .i64 0, .int .i64 0, .int .i64 0, .int .i64 0] 106))
  have HB9 := hx (HB.out.alloc (.cells #[.int .i64 0, .int .i64 0, .int .i64 0, .int .i64 0] 106))
  have HN := hx (And.intro B32.out.lt (And.intro B62.out.lt (And.intro HB.out.lt K2.out.size)))
  generalize hn : (splitL l).length = n at *
  have HNN := hx hn
  clear hn K2 B32 B62 HB
  go_wp2_with fail
  generalize World.alloc w2 _ = W at *
  generalize w2.heap.size = b9 at *
  go_loopw [10] (fun kv wr => ∃ k : Nat, 1 ≤ k ∧ k ≤ 4 ∧ kv = .int .i64 (k : Int) ∧ Blk wr b9 (arrL l k) 106 ∧ Kept [b9] W wr) (fun kv _ => 5 - (intOf kv).toNat)
  case atStart => exact ⟨1, by omega, by omega, rfl, B9.out, Kept.refl _ _⟩
  case round =>
    obtain ⟨k, hk1, hk4, rfl, hb, hk⟩ := hrel
    have HBK := hx hb
    have HK := hx hk
    have hn201 : n ≤ 201 := by have := HSN.out; have := HL.out; omega
    clear hb hk
    by_cases hlt : k < n ∧ k < 4
    · have hil : (k : Int) < (n : Int) := by omega
      have hil4 : (k : Int) < 4 := by omega
      obtain ⟨x, hxx⟩ : ∃ x, (splitL l)[k]? = some x := ⟨_, List.getElem?_eq_getElem (by have := HNN.out; omega)⟩
      have hcl : wr.cell? ⟨g, k, none⟩ = some (txt x) := by
        apply (HK.out.blk HB9.out (by have := HN.out; simp; omega)).cell
        have h2 := txts_get hxx
        rw [← HTK.out, List.getElem?_take_of_lt hlt.1] at h2
        exact h2
      have HRD := hx (rread_any x wr)
      rw [← read_eq] at HRD
      have HLX := hx (show lN l k = (progR x).1 by unfold lN; rw [if_neg (by omega), hxx])
      have HKB := hx (And.intro hk1 hlt)
      have cb := HBK.out.free k
      clear hk1 hk4 hlt hxx
      go_wp2_with (go_at_call 12; refine HRD.out.mono ?_; rintro e w3 ⟨rfl, hk3⟩; have HK3 := hx (HK.out.trans0 hk3); have HB3 := hx (hk3.blk HBK.out (by simp)); obtain ⟨v9, hv9⟩ : ∃ v, (arrL l k)[k]? = some v := ⟨_, List.getElem?_eq_getElem (by have := HKB.out; simp [arrL]; omega)⟩; have c9 := HB3.out.cell hv9; have f9 := HB3.out.free k; clear hk3)
      go_roundw
      case rel =>
        have hh := HKB.out
        refine ⟨k + 1, by omega, by omega, by push_cast; rfl, ?_, HK3.out.setCell (.inl (by simp)) _⟩
        have h2 := HB3.out.set k (.int .i64 (progR x).1)
        rw [← HLX.out, arrL_set l hh.1 hh.2.2] at h2
        rw [← HLX.out]
        exact h2
      case measure =>
        simp only [intOf]
        have h := HKB.out
        omega
    · have hba : arrL l k = [.int .i64 0, .int .i64 (lN l 1), .int .i64 (lN l 2), .int .i64 (lN l 3)] := by
        by_cases hkn : k < n
        · have : k = 4 := by omega
          subst this
          rfl
        · exact arrL_out (by have := HNN.out; omega)
      rw [hba] at HBK
      have KW := hx (K9.out.trans HK.out (ds := []) (fun _ h => h) (fun x h => by simp at h; subst h; exact .inr HN.out.2.2.2))
      have B3 := hx (HK.out.blk B39.out (by have := HN.out; simp; omega))
      have B6 := hx (HK.out.blk B69.out (by have := HN.out; simp; omega))
      clear hba HK K9 B39 B69 HB9 B9 HTK HNN HSN HL
      have e1 := HBK.out.cell (i := 1) rfl
      have e2 := HBK.out.cell (i := 2) rfl
      have e3 := HBK.out.cell (i := 3) rfl
      have d9 := B3.out.cell (i := 9) rfl
      have f9 := B3.out.free 9
      have d10 := B3.out.cell (i := 10) rfl
      have f10 := B3.out.free 10
      have hne : ¬ w.heap.size = b9 := by have := HN.out; omega
      have hne2 : ¬ b9 = w.heap.size := by have := HN.out; omega
      by_cases hkn : k < n
      · have hil : (k : Int) < (n : Int) := by omega
        have hil4 : ¬ (k : Int) < 4 := by omega
        clear hlt hkn
        go_upto_region 16 with fail
        go_region
        have B35 := hx (((B3.out.set 9 (.int .i64 (lN l 1))).set 10 (.int .i64 (lN l 2))).drew)
        have B65 := hx (((B6.out.set_ne (a := ⟨w.heap.size, 9, none⟩) (by simp) (.int .i64 (lN l 1))).set_ne (a := ⟨w.heap.size, 10, none⟩) (by simp) (.int .i64 (lN l 2))).drew)
        have K5 := hx (((KW.out.setCell (p := ⟨w.heap.size, 9, none⟩) (.inr (by simp)) (.int .i64 (lN l 1))).setCell (p := ⟨w.heap.size, 10, none⟩) (.inr (by simp)) (.int .i64 (lN l 2))).drew)
        simp only [List.set_cons_zero, List.set_cons_succ] at B35
        clear B3 B6 KW HBK e1 e2 e3 d9 f9 d10 f10
        generalize World.drew _ = W5 at *
        generalize hz : w.heap.size = z at *
        have HSK := hx (fun (w3 : World) (hk : Kept [] W5 w3) => show (fun w3 => w3.cell? ⟨z, 0, none⟩ = some (.int .u32 ses) ∧ w3.cell? ⟨z, 1, none⟩ = some (.int .u32 tok) ∧ w3.cell? ⟨z, 2, none⟩ = some (.int .u32 seed) ∧ w3.cell? ⟨z, 3, none⟩ = some (.int .i64 0) ∧ w3.cell? ⟨z, 4, none⟩ = some (.int .i64 del) ∧ w3.cell? ⟨z, 5, none⟩ = some (.int .i64 ahe) ∧ w3.cell? ⟨z, 6, none⟩ = some (.int .i64 siz) ∧ w3.cell? ⟨z, 7, none⟩ = some (.int .i64 age) ∧ w3.cell? ⟨z, 8, none⟩ = some (.int .i64 mos) ∧ w3.cell? ⟨z, 9, none⟩ = some (.int .i64 (lN l 1)) ∧ w3.cell? ⟨z, 10, none⟩ = some (.int .i64 (lN l 2))) w3 from (by have hb := hk.blk B35.out (by simp); exact ⟨hb.cell (i := 0) rfl, hb.cell (i := 1) rfl, hb.cell (i := 2) rfl, hb.cell (i := 3) rfl, hb.cell (i := 4) rfl, hb.cell (i := 5) rfl, hb.cell (i := 6) rfl, hb.cell (i := 7) rfl, hb.cell (i := 8) rfl, hb.cell (i := 9) rfl, hb.cell (i := 10) rfl⟩))
        have hix : ∀ X, (Instr.index 91 (.agg #[txt (headL (ses) (tok) (seed) (del) (ahe) (siz) (age) (mos) ((lN l 1)) ((lN l 2)) 0), txt (headL (ses) (tok) (seed) (del) (ahe) (siz) (age) (mos) ((lN l 1)) ((lN l 2)) 1), txt (headL (ses) (tok) (seed) (del) (ahe) (siz) (age) (mos) ((lN l 1)) ((lN l 2)) 2), txt (headL (ses) (tok) (seed) (del) (ahe) (siz) (age) (mos) ((lN l 1)) ((lN l 2)) 3)]) (.int .i64 2)).run Tryd.prog X = .ok (txt (headL (ses) (tok) (seed) (del) (ahe) (siz) (age) (mos) ((lN l 1)) ((lN l 2)) 2)) X := fun X => index4 _ _ _ _ 2 _ X rfl
        go_upto_region 17 with fail
        refine wp_region_held_drew (S := (fun w3 => w3.cell? ⟨z, 0, none⟩ = some (.int .u32 ses) ∧ w3.cell? ⟨z, 1, none⟩ = some (.int .u32 tok) ∧ w3.cell? ⟨z, 2, none⟩ = some (.int .u32 seed) ∧ w3.cell? ⟨z, 3, none⟩ = some (.int .i64 0) ∧ w3.cell? ⟨z, 4, none⟩ = some (.int .i64 del) ∧ w3.cell? ⟨z, 5, none⟩ = some (.int .i64 ahe) ∧ w3.cell? ⟨z, 6, none⟩ = some (.int .i64 siz) ∧ w3.cell? ⟨z, 7, none⟩ = some (.int .i64 age) ∧ w3.cell? ⟨z, 8, none⟩ = some (.int .i64 mos) ∧ w3.cell? ⟨z, 9, none⟩ = some (.int .i64 (lN l 1)) ∧ w3.cell? ⟨z, 10, none⟩ = some (.int .i64 (lN l 2)))) (by kernel_rfl) (HSK.out _ ((Kept.refl [] W5).drew)) (fun hHeld => ?_)
        refine take_by 0 77 (v := ?_) rfl rfl (by kernel_rfl) (by kernel_rfl) (by kernel_rfl) (fun _ _ _ h => h) (Or.inl ⟨by rfl, ?_⟩) (by assumption) ?_
        rotate_left
        · (intro w hSw; (try dsimp only at hSw); go_simp; try with_reducible rfl)
        try simp only [List.setIfInBounds_toArray, List.set_cons_zero, List.set_cons_succ]
        refine take_by 1 78 (v := ?_) rfl rfl (by kernel_rfl) (by kernel_rfl) (by kernel_rfl) (fun _ _ _ h => h) (Or.inl ⟨by rfl, ?_⟩) (by assumption) ?_
        rotate_left
        · (intro w hSw; (try dsimp only at hSw); go_simp; try with_reducible rfl)
        try simp only [List.setIfInBounds_toArray, List.set_cons_zero, List.set_cons_succ]
        refine take_by 3 80 (v := ?_) rfl rfl (by kernel_rfl) (by kernel_rfl) (by kernel_rfl) (fun _ _ _ h => h) (Or.inl ⟨by rfl, ?_⟩) (by assumption) ?_
        rotate_left
        · (intro w hSw; (try dsimp only at hSw); go_simp; try with_reducible rfl)
        try simp only [List.setIfInBounds_toArray, List.set_cons_zero, List.set_cons_succ]
        refine take_by 5 82 (v := ?_) rfl rfl (by kernel_rfl) (by kernel_rfl) (by kernel_rfl) (fun _ _ _ h => h) (Or.inl ⟨by rfl, ?_⟩) (by assumption) ?_
        rotate_left
        · (intro w hSw; (try dsimp only at hSw); go_simp; try with_reducible rfl)
        try simp only [List.setIfInBounds_toArray, List.set_cons_zero, List.set_cons_succ]
        refine wpAnyH_ready (rs := [2]) (by kernel_rfl) (by simp) ?_
        refine AllReadyH.cons rfl (fun K hK => ?_) AllReadyH.nil
        go_simp
        (go_at_call 39; refine (HH2.out _).mono ?_; rintro e w4 ⟨rfl, hk4⟩; have HK4 := hx (show Kept [] W5 w4 from (Kept.drew (Kept.refl [] W5)).trans0 hk4); have hS4 := HSK.out _ HK4.out; clear hk4)
        refine hK.out _ _ (hS4) (fun hHeld => ?_)
        clear hK K
        try simp only [Act.put, List.setIfInBounds_toArray, List.set_cons_zero, List.set_cons_succ]
        refine take_by 4 81 (v := ?_) rfl rfl (by kernel_rfl) (by kernel_rfl) (by kernel_rfl) (fun _ _ _ h => h) (Or.inl ⟨by rfl, ?_⟩) (by assumption) ?_
        rotate_left
        · (intro w hSw; (try dsimp only at hSw); go_simp; try with_reducible rfl)
        try simp only [List.setIfInBounds_toArray, List.set_cons_zero, List.set_cons_succ]
        refine take_by 6 83 (v := ?_) rfl rfl (by kernel_rfl) (by kernel_rfl) (by kernel_rfl) (fun _ _ _ h => h) (Or.inl ⟨by rfl, ?_⟩) (by assumption) ?_
        rotate_left
        · (intro w hSw; (try dsimp only at hSw); go_simp; try with_reducible rfl)
        try simp only [List.setIfInBounds_toArray, List.set_cons_zero, List.set_cons_succ]
        refine wpAnyH_ready (rs := [7]) (by kernel_rfl) (by simp) ?_
        refine AllReadyH.cons rfl (fun K hK => ?_) AllReadyH.nil
        refine store_blkV 50 (.tmp 6) (.tmp 77) rfl (z + 1) rfl 50 _ [.int .u32 ses, .int .u32 tok, .int .u32 seed, .int .i64 0, .int .i64 del, .int .i64 ahe, .int .i64 siz, .int .i64 age, .int .i64 mos, .int .i64 (lN l 1), .int .i64 (lN l 2)] rfl (HK4.out.blk B65.out (by simp)) rfl (by kernel_rfl) (cf_one _ _ _ _ _ _ _ _ _ _ _) ?_
        intro w6 hb6 hk6
        have HB6 := hx hb6
        have HK6 := hx hk6
        have B36 := hx (hk6.blk (HK4.out.blk B35.out (by simp)) (by simp))
        refine hK.out _ _ (⟨B36.out.cell (i := 0) rfl, B36.out.cell (i := 1) rfl, B36.out.cell (i := 2) rfl, B36.out.cell (i := 3) rfl, B36.out.cell (i := 4) rfl, B36.out.cell (i := 5) rfl, B36.out.cell (i := 6) rfl, B36.out.cell (i := 7) rfl, B36.out.cell (i := 8) rfl, B36.out.cell (i := 9) rfl, B36.out.cell (i := 10) rfl⟩) (fun hHeld => ?_)
        clear hK K
        try simp only [Act.put, List.setIfInBounds_toArray]
        refine take_by 8 7 (v := ?_) rfl rfl (by kernel_rfl) (by kernel_rfl) (by kernel_rfl) (fun _ _ _ h => h) (Or.inl ⟨by rfl, ?_⟩) (by assumption) ?_
        rotate_left
        · (intro w hSw; (try dsimp only at hSw); go_simp; try with_reducible rfl)
        try simp only [List.setIfInBounds_toArray, List.set_cons_zero, List.set_cons_succ]
        refine wpAnyH_done (by kernel_rfl) ?_ _
        go_wp2_with fail
        refine bodyPost_ret (ret_blk2 rfl _ (z + 1) _ _ _ _ rfl rfl HB6.out Tryd.underlying50 rfl (by kernel_rfl)) rfl ⟨rfl, (K5.out.trans0 HK4.out).trans HK6.out (ds := []) (fun _ h => h) (fun x h => by simp at h; subst h; exact .inr (by omega))⟩
      · have hil : ¬ (k : Int) < (n : Int) := by omega
        clear hlt hkn
        go_upto_region 16 with fail
        go_region
        have B35 := hx (((B3.out.set 9 (.int .i64 (lN l 1))).set 10 (.int .i64 (lN l 2))).drew)
        have B65 := hx (((B6.out.set_ne (a := ⟨w.heap.size, 9, none⟩) (by simp) (.int .i64 (lN l 1))).set_ne (a := ⟨w.heap.size, 10, none⟩) (by simp) (.int .i64 (lN l 2))).drew)
        have K5 := hx (((KW.out.setCell (p := ⟨w.heap.size, 9, none⟩) (.inr (by simp)) (.int .i64 (lN l 1))).setCell (p := ⟨w.heap.size, 10, none⟩) (.inr (by simp)) (.int .i64 (lN l 2))).drew)
        simp only [List.set_cons_zero, List.set_cons_succ] at B35
        clear B3 B6 KW HBK e1 e2 e3 d9 f9 d10 f10
        generalize World.drew _ = W5 at *
        generalize hz : w.heap.size = z at *
        have HSK := hx (fun (w3 : World) (hk : Kept [] W5 w3) => show (fun w3 => w3.cell? ⟨z, 0, none⟩ = some (.int .u32 ses) ∧ w3.cell? ⟨z, 1, none⟩ = some (.int .u32 tok) ∧ w3.cell? ⟨z, 2, none⟩ = some (.int .u32 seed) ∧ w3.cell? ⟨z, 3, none⟩ = some (.int .i64 0) ∧ w3.cell? ⟨z, 4, none⟩ = some (.int .i64 del) ∧ w3.cell? ⟨z, 5, none⟩ = some (.int .i64 ahe) ∧ w3.cell? ⟨z, 6, none⟩ = some (.int .i64 siz) ∧ w3.cell? ⟨z, 7, none⟩ = some (.int .i64 age) ∧ w3.cell? ⟨z, 8, none⟩ = some (.int .i64 mos) ∧ w3.cell? ⟨z, 9, none⟩ = some (.int .i64 (lN l 1)) ∧ w3.cell? ⟨z, 10, none⟩ = some (.int .i64 (lN l 2))) w3 from (by have hb := hk.blk B35.out (by simp); exact ⟨hb.cell (i := 0) rfl, hb.cell (i := 1) rfl, hb.cell (i := 2) rfl, hb.cell (i := 3) rfl, hb.cell (i := 4) rfl, hb.cell (i := 5) rfl, hb.cell (i := 6) rfl, hb.cell (i := 7) rfl, hb.cell (i := 8) rfl, hb.cell (i := 9) rfl, hb.cell (i := 10) rfl⟩))
        have hix : ∀ X, (Instr.index 91 (.agg #[txt (headL (ses) (tok) (seed) (del) (ahe) (siz) (age) (mos) ((lN l 1)) ((lN l 2)) 0), txt (headL (ses) (tok) (seed) (del) (ahe) (siz) (age) (mos) ((lN l 1)) ((lN l 2)) 1), txt (headL (ses) (tok) (seed) (del) (ahe) (siz) (age) (mos) ((lN l 1)) ((lN l 2)) 2), txt (headL (ses) (tok) (seed) (del) (ahe) (siz) (age) (mos) ((lN l 1)) ((lN l 2)) 3)]) (.int .i64 2)).run Tryd.prog X = .ok (txt (headL (ses) (tok) (seed) (del) (ahe) (siz) (age) (mos) ((lN l 1)) ((lN l 2)) 2)) X := fun X => index4 _ _ _ _ 2 _ X rfl
        go_upto_region 17 with fail
        refine wp_region_held_drew (S := (fun w3 => w3.cell? ⟨z, 0, none⟩ = some (.int .u32 ses) ∧ w3.cell? ⟨z, 1, none⟩ = some (.int .u32 tok) ∧ w3.cell? ⟨z, 2, none⟩ = some (.int .u32 seed) ∧ w3.cell? ⟨z, 3, none⟩ = some (.int .i64 0) ∧ w3.cell? ⟨z, 4, none⟩ = some (.int .i64 del) ∧ w3.cell? ⟨z, 5, none⟩ = some (.int .i64 ahe) ∧ w3.cell? ⟨z, 6, none⟩ = some (.int .i64 siz) ∧ w3.cell? ⟨z, 7, none⟩ = some (.int .i64 age) ∧ w3.cell? ⟨z, 8, none⟩ = some (.int .i64 mos) ∧ w3.cell? ⟨z, 9, none⟩ = some (.int .i64 (lN l 1)) ∧ w3.cell? ⟨z, 10, none⟩ = some (.int .i64 (lN l 2)))) (by kernel_rfl) (HSK.out _ ((Kept.refl [] W5).drew)) (fun hHeld => ?_)
        refine take_by 0 77 (v := ?_) rfl rfl (by kernel_rfl) (by kernel_rfl) (by kernel_rfl) (fun _ _ _ h => h) (Or.inl ⟨by rfl, ?_⟩) (by assumption) ?_
        rotate_left
        · (intro w hSw; (try dsimp only at hSw); go_simp; try with_reducible rfl)
        try simp only [List.setIfInBounds_toArray, List.set_cons_zero, List.set_cons_succ]
        refine take_by 1 78 (v := ?_) rfl rfl (by kernel_rfl) (by kernel_rfl) (by kernel_rfl) (fun _ _ _ h => h) (Or.inl ⟨by rfl, ?_⟩) (by assumption) ?_
        rotate_left
        · (intro w hSw; (try dsimp only at hSw); go_simp; try with_reducible rfl)
        try simp only [List.setIfInBounds_toArray, List.set_cons_zero, List.set_cons_succ]
        refine take_by 3 80 (v := ?_) rfl rfl (by kernel_rfl) (by kernel_rfl) (by kernel_rfl) (fun _ _ _ h => h) (Or.inl ⟨by rfl, ?_⟩) (by assumption) ?_
        rotate_left
        · (intro w hSw; (try dsimp only at hSw); go_simp; try with_reducible rfl)
        try simp only [List.setIfInBounds_toArray, List.set_cons_zero, List.set_cons_succ]
        refine take_by 5 82 (v := ?_) rfl rfl (by kernel_rfl) (by kernel_rfl) (by kernel_rfl) (fun _ _ _ h => h) (Or.inl ⟨by rfl, ?_⟩) (by assumption) ?_
        rotate_left
        · (intro w hSw; (try dsimp only at hSw); go_simp; try with_reducible rfl)
        try simp only [List.setIfInBounds_toArray, List.set_cons_zero, List.set_cons_succ]
        refine wpAnyH_ready (rs := [2]) (by kernel_rfl) (by simp) ?_
        refine AllReadyH.cons rfl (fun K hK => ?_) AllReadyH.nil
        go_simp
        (go_at_call 39; refine (HH2.out _).mono ?_; rintro e w4 ⟨rfl, hk4⟩; have HK4 := hx (show Kept [] W5 w4 from (Kept.drew (Kept.refl [] W5)).trans0 hk4); have hS4 := HSK.out _ HK4.out; clear hk4)
        refine hK.out _ _ (hS4) (fun hHeld => ?_)
        clear hK K
        try simp only [Act.put, List.setIfInBounds_toArray, List.set_cons_zero, List.set_cons_succ]
        refine take_by 4 81 (v := ?_) rfl rfl (by kernel_rfl) (by kernel_rfl) (by kernel_rfl) (fun _ _ _ h => h) (Or.inl ⟨by rfl, ?_⟩) (by assumption) ?_
        rotate_left
        · (intro w hSw; (try dsimp only at hSw); go_simp; try with_reducible rfl)
        try simp only [List.setIfInBounds_toArray, List.set_cons_zero, List.set_cons_succ]
        refine take_by 6 83 (v := ?_) rfl rfl (by kernel_rfl) (by kernel_rfl) (by kernel_rfl) (fun _ _ _ h => h) (Or.inl ⟨by rfl, ?_⟩) (by assumption) ?_
        rotate_left
        · (intro w hSw; (try dsimp only at hSw); go_simp; try with_reducible rfl)
        try simp only [List.setIfInBounds_toArray, List.set_cons_zero, List.set_cons_succ]
        refine wpAnyH_ready (rs := [7]) (by kernel_rfl) (by simp) ?_
        refine AllReadyH.cons rfl (fun K hK => ?_) AllReadyH.nil
        refine store_blkV 50 (.tmp 6) (.tmp 77) rfl (z + 1) rfl 50 _ [.int .u32 ses, .int .u32 tok, .int .u32 seed, .int .i64 0, .int .i64 del, .int .i64 ahe, .int .i64 siz, .int .i64 age, .int .i64 mos, .int .i64 (lN l 1), .int .i64 (lN l 2)] rfl (HK4.out.blk B65.out (by simp)) rfl (by kernel_rfl) (cf_one _ _ _ _ _ _ _ _ _ _ _) ?_
        intro w6 hb6 hk6
        have HB6 := hx hb6
        have HK6 := hx hk6
        have B36 := hx (hk6.blk (HK4.out.blk B35.out (by simp)) (by simp))
        refine hK.out _ _ (⟨B36.out.cell (i := 0) rfl, B36.out.cell (i := 1) rfl, B36.out.cell (i := 2) rfl, B36.out.cell (i := 3) rfl, B36.out.cell (i := 4) rfl, B36.out.cell (i := 5) rfl, B36.out.cell (i := 6) rfl, B36.out.cell (i := 7) rfl, B36.out.cell (i := 8) rfl, B36.out.cell (i := 9) rfl, B36.out.cell (i := 10) rfl⟩) (fun hHeld => ?_)
        clear hK K
        try simp only [Act.put, List.setIfInBounds_toArray]
        refine take_by 8 7 (v := ?_) rfl rfl (by kernel_rfl) (by kernel_rfl) (by kernel_rfl) (fun _ _ _ h => h) (Or.inl ⟨by rfl, ?_⟩) (by assumption) ?_
        rotate_left
        · (intro w hSw; (try dsimp only at hSw); go_simp; try with_reducible rfl)
        try simp only [List.setIfInBounds_toArray, List.set_cons_zero, List.set_cons_succ]
        refine wpAnyH_done (by kernel_rfl) ?_ _
        go_wp2_with fail
        refine bodyPost_ret (ret_blk2 rfl _ (z + 1) _ _ _ _ rfl rfl HB6.out Tryd.underlying50 rfl (by kernel_rfl)) rfl ⟨rfl, (K5.out.trans0 HK4.out).trans HK6.out (ds := []) (fun _ h => h) (fun x h => by simp at h; subst h; exact .inr (by omega))⟩
set_option maxRecDepth 100000 in
set_option maxHeartbeats 12800000 in
theorem rhead_3 (l : List UInt8) (hl : l.length ≤ 200) (ses tok seed del ahe siz age mos rat bur : Int) (w : World)
    (_h0 : in64 ses) (_h1 : in64 tok) (h2 : in64 seed) (h4 : in64 del) (h5 : in64 ahe) (h6 : in64 siz) (h7 : in64 age) (h8 : in64 mos) (h9 : in64 rat) (h10 : in64 bur) (hs1 : IntKind.i64.wrap seed = seed) (_hs2 : IntKind.i64.wrap ses = ses) (_hs3 : IntKind.i64.wrap tok = tok) :
    Calls Tryd.prog 43 #[.agg #[.int .u32 ses, .int .u32 tok, .int .u32 seed, .int .i64 0, .int .i64 del, .int .i64 ahe, .int .i64 siz, .int .i64 age, .int .i64 mos, .int .i64 rat, .int .i64 bur], .int .i64 3, txt l] w fun e w' =>
      e = .returned (.tuple #[.agg (hdC 3 l ses tok seed del ahe siz age mos rat bur).toArray, .bool (accL (headW 3) (hdN 3 l) == l)]) ∧ Kept [] w w' := by
  have hl200 : ¬ (200 : Int) < (l.length : Int) := by omega
  have HC := hx (fun w1 => cut_any l w1 hl)
  have HH3 := hx (fun w1 => rheads_L (un32 (lN l 1)) (un32 (lN l 2)) seed 0 del ahe siz age mos rat bur w1 (u32_64 _) (u32_64 _) h2 h4 h5 h6 h7 h8 h9 h10 hs1 (u32_wrap2 _) (u32_wrap2 _))
  have HSN := hx (splitL_len l)
  have HL := hx hl
  clear _h0 _h1 h2 h4 h5 h6 h7 h8 h9 h10 hs1 _hs2 _hs3 hl
  go_enter Tryd.func43, Tryd.ntmps43
  go_upto_region 3 with fail
  have B3 := hx ((Blk.new w [.int .u32 ses, .int .u32 tok, .int .u32 seed, .int .i64 0, .int .i64 del, .int .i64 ahe, .int .i64 siz, .int .i64 age, .int .i64 mos, .int .i64 rat, .int .i64 bur] 50).alloc (.cells (cfL 0 0 0 0 0 0 0 0 0 0 0).toArray 50))
  have B6 := hx (Blk.at (w.alloc (.cells #[.int .u32 ses, .int .u32 tok, .int .u32 seed, .int .i64 0, .int .i64 del, .int .i64 ahe, .int .i64 siz, .int .i64 age, .int .i64 mos, .int .i64 rat, .int .i64 bur] 50)) (w.heap.size + 1) (by simp) (cfL 0 0 0 0 0 0 0 0 0 0 0) 50)
  have K1 := hx (((Kept.refl [] w).alloc (.cells #[.int .u32 ses, .int .u32 tok, .int .u32 seed, .int .i64 0, .int .i64 del, .int .i64 ahe, .int .i64 siz, .int .i64 age, .int .i64 mos, .int .i64 rat, .int .i64 bur] 50)).alloc (.cells (cfL 0 0 0 0 0 0 0 0 0 0 0).toArray 50))
  simp only [cfL] at B3 B6 K1
  generalize World.alloc (World.alloc w _) _ = w1 at *
  go_upto_region 4 with (go_at_call 32; refine (HC.out _).mono ?_; rintro e w2 ⟨v, rfl, ho, hk⟩; obtain ⟨g, cap, cur, rfl, hg, hB, htk, _⟩ := own_blk1 ho (by rcases hsp : splitL l with _ | ⟨a, b⟩; exact absurd hsp (splitL_ne l); simp); have K2 := hx (K1.out.trans0 hk); have B32 := hx (hk.blk B3.out (by simp)); have B62 := hx (hk.blk B6.out (by simp)); have HB := hx hB; have HTK := hx htk; clear ho hk hg hB htk)
  clear HC B3 B6 K1
  have B9 := hx (Blk.new w2 [.int .i64 0, .int .i64 0, .int .i64 0, .int .i64 0] 106)
  have K9 := hx (K2.out.alloc (.cells #[.int .i64 0, .int .i64 0, .int .i64 0, .int .i64 0] 106))
  have B39 := hx (B32.out.alloc (.cells #[.int .i64 0, .int .i64 0, .int .i64 0, .int .i64 0] 106))
  have B69 := hx (B62.out.alloc (.cells #[.int .i64 0, .int .i64 0, .int .i64 0, .int .i64 0] 106))
  have HB9 := hx (HB.out.alloc (.cells #[.int .i64 0, .int .i64 0, .int .i64 0, .int .i64 0] 106))
  have HN := hx (And.intro B32.out.lt (And.intro B62.out.lt (And.intro HB.out.lt K2.out.size)))
  generalize hn : (splitL l).length = n at *
  have HNN := hx hn
  clear hn K2 B32 B62 HB
  go_wp2_with fail
  generalize World.alloc w2 _ = W at *
  generalize w2.heap.size = b9 at *
  go_loopw [10] (fun kv wr => ∃ k : Nat, 1 ≤ k ∧ k ≤ 4 ∧ kv = .int .i64 (k : Int) ∧ Blk wr b9 (arrL l k) 106 ∧ Kept [b9] W wr) (fun kv _ => 5 - (intOf kv).toNat)
  case atStart => exact ⟨1, by omega, by omega, rfl, B9.out, Kept.refl _ _⟩
  case round =>
    obtain ⟨k, hk1, hk4, rfl, hb, hk⟩ := hrel
    have HBK := hx hb
    have HK := hx hk
    have hn201 : n ≤ 201 := by have := HSN.out; have := HL.out; omega
    clear hb hk
    by_cases hlt : k < n ∧ k < 4
    · have hil : (k : Int) < (n : Int) := by omega
      have hil4 : (k : Int) < 4 := by omega
      obtain ⟨x, hxx⟩ : ∃ x, (splitL l)[k]? = some x := ⟨_, List.getElem?_eq_getElem (by have := HNN.out; omega)⟩
      have hcl : wr.cell? ⟨g, k, none⟩ = some (txt x) := by
        apply (HK.out.blk HB9.out (by have := HN.out; simp; omega)).cell
        have h2 := txts_get hxx
        rw [← HTK.out, List.getElem?_take_of_lt hlt.1] at h2
        exact h2
      have HRD := hx (rread_any x wr)
      rw [← read_eq] at HRD
      have HLX := hx (show lN l k = (progR x).1 by unfold lN; rw [if_neg (by omega), hxx])
      have HKB := hx (And.intro hk1 hlt)
      have cb := HBK.out.free k
      clear hk1 hk4 hlt hxx
      go_wp2_with (go_at_call 12; refine HRD.out.mono ?_; rintro e w3 ⟨rfl, hk3⟩; have HK3 := hx (HK.out.trans0 hk3); have HB3 := hx (hk3.blk HBK.out (by simp)); obtain ⟨v9, hv9⟩ : ∃ v, (arrL l k)[k]? = some v := ⟨_, List.getElem?_eq_getElem (by have := HKB.out; simp [arrL]; omega)⟩; have c9 := HB3.out.cell hv9; have f9 := HB3.out.free k; clear hk3)
      go_roundw
      case rel =>
        have hh := HKB.out
        refine ⟨k + 1, by omega, by omega, by push_cast; rfl, ?_, HK3.out.setCell (.inl (by simp)) _⟩
        have h2 := HB3.out.set k (.int .i64 (progR x).1)
        rw [← HLX.out, arrL_set l hh.1 hh.2.2] at h2
        rw [← HLX.out]
        exact h2
      case measure =>
        simp only [intOf]
        have h := HKB.out
        omega
    · have hba : arrL l k = [.int .i64 0, .int .i64 (lN l 1), .int .i64 (lN l 2), .int .i64 (lN l 3)] := by
        by_cases hkn : k < n
        · have : k = 4 := by omega
          subst this
          rfl
        · exact arrL_out (by have := HNN.out; omega)
      rw [hba] at HBK
      have KW := hx (K9.out.trans HK.out (ds := []) (fun _ h => h) (fun x h => by simp at h; subst h; exact .inr HN.out.2.2.2))
      have B3 := hx (HK.out.blk B39.out (by have := HN.out; simp; omega))
      have B6 := hx (HK.out.blk B69.out (by have := HN.out; simp; omega))
      clear hba HK K9 B39 B69 HB9 B9 HTK HNN HSN HL
      have e1 := HBK.out.cell (i := 1) rfl
      have e2 := HBK.out.cell (i := 2) rfl
      have e3 := HBK.out.cell (i := 3) rfl
      have d0 := B3.out.cell (i := 0) rfl
      have f0 := B3.out.free 0
      have d1 := B3.out.cell (i := 1) rfl
      have f1 := B3.out.free 1
      have hne : ¬ w.heap.size = b9 := by have := HN.out; omega
      have hne2 : ¬ b9 = w.heap.size := by have := HN.out; omega
      by_cases hkn : k < n
      · have hil : (k : Int) < (n : Int) := by omega
        have hil4 : ¬ (k : Int) < 4 := by omega
        clear hlt hkn
        go_upto_region 10 with fail
        go_region
        have B35 := hx (((B3.out.set 0 (.int .u32 (lN l 1 % 4294967296))).set 1 (.int .u32 (lN l 2 % 4294967296))).drew)
        have B65 := hx (((B6.out.set_ne (a := ⟨w.heap.size, 0, none⟩) (by simp) (.int .u32 (lN l 1 % 4294967296))).set_ne (a := ⟨w.heap.size, 1, none⟩) (by simp) (.int .u32 (lN l 2 % 4294967296))).drew)
        have K5 := hx (((KW.out.setCell (p := ⟨w.heap.size, 0, none⟩) (.inr (by simp)) (.int .u32 (lN l 1 % 4294967296))).setCell (p := ⟨w.heap.size, 1, none⟩) (.inr (by simp)) (.int .u32 (lN l 2 % 4294967296))).drew)
        simp only [List.set_cons_zero, List.set_cons_succ] at B35
        clear B3 B6 KW HBK e1 e2 e3 d0 f0 d1 f1
        generalize World.drew _ = W5 at *
        generalize hz : w.heap.size = z at *
        have HSK := hx (fun (w3 : World) (hk : Kept [] W5 w3) => show (fun w3 => w3.cell? ⟨z, 0, none⟩ = some (.int .u32 (lN l 1 % 4294967296)) ∧ w3.cell? ⟨z, 1, none⟩ = some (.int .u32 (lN l 2 % 4294967296)) ∧ w3.cell? ⟨z, 2, none⟩ = some (.int .u32 seed) ∧ w3.cell? ⟨z, 3, none⟩ = some (.int .i64 0) ∧ w3.cell? ⟨z, 4, none⟩ = some (.int .i64 del) ∧ w3.cell? ⟨z, 5, none⟩ = some (.int .i64 ahe) ∧ w3.cell? ⟨z, 6, none⟩ = some (.int .i64 siz) ∧ w3.cell? ⟨z, 7, none⟩ = some (.int .i64 age) ∧ w3.cell? ⟨z, 8, none⟩ = some (.int .i64 mos) ∧ w3.cell? ⟨z, 9, none⟩ = some (.int .i64 rat) ∧ w3.cell? ⟨z, 10, none⟩ = some (.int .i64 bur)) w3 from (by have hb := hk.blk B35.out (by simp); exact ⟨hb.cell (i := 0) rfl, hb.cell (i := 1) rfl, hb.cell (i := 2) rfl, hb.cell (i := 3) rfl, hb.cell (i := 4) rfl, hb.cell (i := 5) rfl, hb.cell (i := 6) rfl, hb.cell (i := 7) rfl, hb.cell (i := 8) rfl, hb.cell (i := 9) rfl, hb.cell (i := 10) rfl⟩))
        have hix : ∀ X, (Instr.index 91 (.agg #[txt (headL ((un32 (lN l 1))) ((un32 (lN l 2))) (seed) (del) (ahe) (siz) (age) (mos) (rat) (bur) 0), txt (headL ((un32 (lN l 1))) ((un32 (lN l 2))) (seed) (del) (ahe) (siz) (age) (mos) (rat) (bur) 1), txt (headL ((un32 (lN l 1))) ((un32 (lN l 2))) (seed) (del) (ahe) (siz) (age) (mos) (rat) (bur) 2), txt (headL ((un32 (lN l 1))) ((un32 (lN l 2))) (seed) (del) (ahe) (siz) (age) (mos) (rat) (bur) 3)]) (.int .i64 3)).run Tryd.prog X = .ok (txt (headL ((un32 (lN l 1))) ((un32 (lN l 2))) (seed) (del) (ahe) (siz) (age) (mos) (rat) (bur) 3)) X := fun X => index4 _ _ _ _ 3 _ X rfl
        go_upto_region 17 with fail
        refine wp_region_held_drew (S := (fun w3 => w3.cell? ⟨z, 0, none⟩ = some (.int .u32 (lN l 1 % 4294967296)) ∧ w3.cell? ⟨z, 1, none⟩ = some (.int .u32 (lN l 2 % 4294967296)) ∧ w3.cell? ⟨z, 2, none⟩ = some (.int .u32 seed) ∧ w3.cell? ⟨z, 3, none⟩ = some (.int .i64 0) ∧ w3.cell? ⟨z, 4, none⟩ = some (.int .i64 del) ∧ w3.cell? ⟨z, 5, none⟩ = some (.int .i64 ahe) ∧ w3.cell? ⟨z, 6, none⟩ = some (.int .i64 siz) ∧ w3.cell? ⟨z, 7, none⟩ = some (.int .i64 age) ∧ w3.cell? ⟨z, 8, none⟩ = some (.int .i64 mos) ∧ w3.cell? ⟨z, 9, none⟩ = some (.int .i64 rat) ∧ w3.cell? ⟨z, 10, none⟩ = some (.int .i64 bur))) (by kernel_rfl) (HSK.out _ ((Kept.refl [] W5).drew)) (fun hHeld => ?_)
        refine take_by 0 77 (v := ?_) rfl rfl (by kernel_rfl) (by kernel_rfl) (by kernel_rfl) (fun _ _ _ h => h) (Or.inl ⟨by rfl, ?_⟩) (by assumption) ?_
        rotate_left
        · (intro w hSw; (try dsimp only at hSw); go_simp; try with_reducible rfl)
        try simp only [List.setIfInBounds_toArray, List.set_cons_zero, List.set_cons_succ]
        refine take_by 1 78 (v := ?_) rfl rfl (by kernel_rfl) (by kernel_rfl) (by kernel_rfl) (fun _ _ _ h => h) (Or.inl ⟨by rfl, ?_⟩) (by assumption) ?_
        rotate_left
        · (intro w hSw; (try dsimp only at hSw); go_simp; try with_reducible rfl)
        try simp only [List.setIfInBounds_toArray, List.set_cons_zero, List.set_cons_succ]
        refine take_by 3 80 (v := ?_) rfl rfl (by kernel_rfl) (by kernel_rfl) (by kernel_rfl) (fun _ _ _ h => h) (Or.inl ⟨by rfl, ?_⟩) (by assumption) ?_
        rotate_left
        · (intro w hSw; (try dsimp only at hSw); go_simp; try with_reducible rfl)
        try simp only [List.setIfInBounds_toArray, List.set_cons_zero, List.set_cons_succ]
        refine take_by 5 82 (v := ?_) rfl rfl (by kernel_rfl) (by kernel_rfl) (by kernel_rfl) (fun _ _ _ h => h) (Or.inl ⟨by rfl, ?_⟩) (by assumption) ?_
        rotate_left
        · (intro w hSw; (try dsimp only at hSw); go_simp; try with_reducible rfl)
        try simp only [List.setIfInBounds_toArray, List.set_cons_zero, List.set_cons_succ]
        refine wpAnyH_ready (rs := [2]) (by kernel_rfl) (by simp) ?_
        refine AllReadyH.cons rfl (fun K hK => ?_) AllReadyH.nil
        go_simp
        (go_at_call 39; refine (HH3.out _).mono ?_; rintro e w4 ⟨rfl, hk4⟩; have HK4 := hx (show Kept [] W5 w4 from (Kept.drew (Kept.refl [] W5)).trans0 hk4); have hS4 := HSK.out _ HK4.out; clear hk4)
        refine hK.out _ _ (hS4) (fun hHeld => ?_)
        clear hK K
        try simp only [Act.put, List.setIfInBounds_toArray, List.set_cons_zero, List.set_cons_succ]
        refine take_by 4 81 (v := ?_) rfl rfl (by kernel_rfl) (by kernel_rfl) (by kernel_rfl) (fun _ _ _ h => h) (Or.inl ⟨by rfl, ?_⟩) (by assumption) ?_
        rotate_left
        · (intro w hSw; (try dsimp only at hSw); go_simp; try with_reducible rfl)
        try simp only [List.setIfInBounds_toArray, List.set_cons_zero, List.set_cons_succ]
        refine take_by 6 83 (v := ?_) rfl rfl (by kernel_rfl) (by kernel_rfl) (by kernel_rfl) (fun _ _ _ h => h) (Or.inl ⟨by rfl, ?_⟩) (by assumption) ?_
        rotate_left
        · (intro w hSw; (try dsimp only at hSw); go_simp; try with_reducible rfl)
        try simp only [List.setIfInBounds_toArray, List.set_cons_zero, List.set_cons_succ]
        refine wpAnyH_ready (rs := [7]) (by kernel_rfl) (by simp) ?_
        refine AllReadyH.cons rfl (fun K hK => ?_) AllReadyH.nil
        refine store_blkV 50 (.tmp 6) (.tmp 77) rfl (z + 1) rfl 50 _ [.int .u32 (lN l 1 % 4294967296), .int .u32 (lN l 2 % 4294967296), .int .u32 seed, .int .i64 0, .int .i64 del, .int .i64 ahe, .int .i64 siz, .int .i64 age, .int .i64 mos, .int .i64 rat, .int .i64 bur] rfl (HK4.out.blk B65.out (by simp)) rfl (by kernel_rfl) (cf_one _ _ _ _ _ _ _ _ _ _ _) ?_
        intro w6 hb6 hk6
        have HB6 := hx hb6
        have HK6 := hx hk6
        have B36 := hx (hk6.blk (HK4.out.blk B35.out (by simp)) (by simp))
        refine hK.out _ _ (⟨B36.out.cell (i := 0) rfl, B36.out.cell (i := 1) rfl, B36.out.cell (i := 2) rfl, B36.out.cell (i := 3) rfl, B36.out.cell (i := 4) rfl, B36.out.cell (i := 5) rfl, B36.out.cell (i := 6) rfl, B36.out.cell (i := 7) rfl, B36.out.cell (i := 8) rfl, B36.out.cell (i := 9) rfl, B36.out.cell (i := 10) rfl⟩) (fun hHeld => ?_)
        clear hK K
        try simp only [Act.put, List.setIfInBounds_toArray]
        refine take_by 8 7 (v := ?_) rfl rfl (by kernel_rfl) (by kernel_rfl) (by kernel_rfl) (fun _ _ _ h => h) (Or.inl ⟨by rfl, ?_⟩) (by assumption) ?_
        rotate_left
        · (intro w hSw; (try dsimp only at hSw); go_simp; try with_reducible rfl)
        try simp only [List.setIfInBounds_toArray, List.set_cons_zero, List.set_cons_succ]
        refine wpAnyH_done (by kernel_rfl) ?_ _
        go_wp2_with fail
        refine bodyPost_ret (ret_blk2 rfl _ (z + 1) _ _ _ _ rfl rfl HB6.out Tryd.underlying50 rfl (by kernel_rfl)) rfl ⟨rfl, (K5.out.trans0 HK4.out).trans HK6.out (ds := []) (fun _ h => h) (fun x h => by simp at h; subst h; exact .inr (by omega))⟩
      · have hil : ¬ (k : Int) < (n : Int) := by omega
        clear hlt hkn
        go_upto_region 10 with fail
        go_region
        have B35 := hx (((B3.out.set 0 (.int .u32 (lN l 1 % 4294967296))).set 1 (.int .u32 (lN l 2 % 4294967296))).drew)
        have B65 := hx (((B6.out.set_ne (a := ⟨w.heap.size, 0, none⟩) (by simp) (.int .u32 (lN l 1 % 4294967296))).set_ne (a := ⟨w.heap.size, 1, none⟩) (by simp) (.int .u32 (lN l 2 % 4294967296))).drew)
        have K5 := hx (((KW.out.setCell (p := ⟨w.heap.size, 0, none⟩) (.inr (by simp)) (.int .u32 (lN l 1 % 4294967296))).setCell (p := ⟨w.heap.size, 1, none⟩) (.inr (by simp)) (.int .u32 (lN l 2 % 4294967296))).drew)
        simp only [List.set_cons_zero, List.set_cons_succ] at B35
        clear B3 B6 KW HBK e1 e2 e3 d0 f0 d1 f1
        generalize World.drew _ = W5 at *
        generalize hz : w.heap.size = z at *
        have HSK := hx (fun (w3 : World) (hk : Kept [] W5 w3) => show (fun w3 => w3.cell? ⟨z, 0, none⟩ = some (.int .u32 (lN l 1 % 4294967296)) ∧ w3.cell? ⟨z, 1, none⟩ = some (.int .u32 (lN l 2 % 4294967296)) ∧ w3.cell? ⟨z, 2, none⟩ = some (.int .u32 seed) ∧ w3.cell? ⟨z, 3, none⟩ = some (.int .i64 0) ∧ w3.cell? ⟨z, 4, none⟩ = some (.int .i64 del) ∧ w3.cell? ⟨z, 5, none⟩ = some (.int .i64 ahe) ∧ w3.cell? ⟨z, 6, none⟩ = some (.int .i64 siz) ∧ w3.cell? ⟨z, 7, none⟩ = some (.int .i64 age) ∧ w3.cell? ⟨z, 8, none⟩ = some (.int .i64 mos) ∧ w3.cell? ⟨z, 9, none⟩ = some (.int .i64 rat) ∧ w3.cell? ⟨z, 10, none⟩ = some (.int .i64 bur)) w3 from (by have hb := hk.blk B35.out (by simp); exact ⟨hb.cell (i := 0) rfl, hb.cell (i := 1) rfl, hb.cell (i := 2) rfl, hb.cell (i := 3) rfl, hb.cell (i := 4) rfl, hb.cell (i := 5) rfl, hb.cell (i := 6) rfl, hb.cell (i := 7) rfl, hb.cell (i := 8) rfl, hb.cell (i := 9) rfl, hb.cell (i := 10) rfl⟩))
        have hix : ∀ X, (Instr.index 91 (.agg #[txt (headL ((un32 (lN l 1))) ((un32 (lN l 2))) (seed) (del) (ahe) (siz) (age) (mos) (rat) (bur) 0), txt (headL ((un32 (lN l 1))) ((un32 (lN l 2))) (seed) (del) (ahe) (siz) (age) (mos) (rat) (bur) 1), txt (headL ((un32 (lN l 1))) ((un32 (lN l 2))) (seed) (del) (ahe) (siz) (age) (mos) (rat) (bur) 2), txt (headL ((un32 (lN l 1))) ((un32 (lN l 2))) (seed) (del) (ahe) (siz) (age) (mos) (rat) (bur) 3)]) (.int .i64 3)).run Tryd.prog X = .ok (txt (headL ((un32 (lN l 1))) ((un32 (lN l 2))) (seed) (del) (ahe) (siz) (age) (mos) (rat) (bur) 3)) X := fun X => index4 _ _ _ _ 3 _ X rfl
        go_upto_region 17 with fail
        refine wp_region_held_drew (S := (fun w3 => w3.cell? ⟨z, 0, none⟩ = some (.int .u32 (lN l 1 % 4294967296)) ∧ w3.cell? ⟨z, 1, none⟩ = some (.int .u32 (lN l 2 % 4294967296)) ∧ w3.cell? ⟨z, 2, none⟩ = some (.int .u32 seed) ∧ w3.cell? ⟨z, 3, none⟩ = some (.int .i64 0) ∧ w3.cell? ⟨z, 4, none⟩ = some (.int .i64 del) ∧ w3.cell? ⟨z, 5, none⟩ = some (.int .i64 ahe) ∧ w3.cell? ⟨z, 6, none⟩ = some (.int .i64 siz) ∧ w3.cell? ⟨z, 7, none⟩ = some (.int .i64 age) ∧ w3.cell? ⟨z, 8, none⟩ = some (.int .i64 mos) ∧ w3.cell? ⟨z, 9, none⟩ = some (.int .i64 rat) ∧ w3.cell? ⟨z, 10, none⟩ = some (.int .i64 bur))) (by kernel_rfl) (HSK.out _ ((Kept.refl [] W5).drew)) (fun hHeld => ?_)
        refine take_by 0 77 (v := ?_) rfl rfl (by kernel_rfl) (by kernel_rfl) (by kernel_rfl) (fun _ _ _ h => h) (Or.inl ⟨by rfl, ?_⟩) (by assumption) ?_
        rotate_left
        · (intro w hSw; (try dsimp only at hSw); go_simp; try with_reducible rfl)
        try simp only [List.setIfInBounds_toArray, List.set_cons_zero, List.set_cons_succ]
        refine take_by 1 78 (v := ?_) rfl rfl (by kernel_rfl) (by kernel_rfl) (by kernel_rfl) (fun _ _ _ h => h) (Or.inl ⟨by rfl, ?_⟩) (by assumption) ?_
        rotate_left
        · (intro w hSw; (try dsimp only at hSw); go_simp; try with_reducible rfl)
        try simp only [List.setIfInBounds_toArray, List.set_cons_zero, List.set_cons_succ]
        refine take_by 3 80 (v := ?_) rfl rfl (by kernel_rfl) (by kernel_rfl) (by kernel_rfl) (fun _ _ _ h => h) (Or.inl ⟨by rfl, ?_⟩) (by assumption) ?_
        rotate_left
        · (intro w hSw; (try dsimp only at hSw); go_simp; try with_reducible rfl)
        try simp only [List.setIfInBounds_toArray, List.set_cons_zero, List.set_cons_succ]
        refine take_by 5 82 (v := ?_) rfl rfl (by kernel_rfl) (by kernel_rfl) (by kernel_rfl) (fun _ _ _ h => h) (Or.inl ⟨by rfl, ?_⟩) (by assumption) ?_
        rotate_left
        · (intro w hSw; (try dsimp only at hSw); go_simp; try with_reducible rfl)
        try simp only [List.setIfInBounds_toArray, List.set_cons_zero, List.set_cons_succ]
        refine wpAnyH_ready (rs := [2]) (by kernel_rfl) (by simp) ?_
        refine AllReadyH.cons rfl (fun K hK => ?_) AllReadyH.nil
        go_simp
        (go_at_call 39; refine (HH3.out _).mono ?_; rintro e w4 ⟨rfl, hk4⟩; have HK4 := hx (show Kept [] W5 w4 from (Kept.drew (Kept.refl [] W5)).trans0 hk4); have hS4 := HSK.out _ HK4.out; clear hk4)
        refine hK.out _ _ (hS4) (fun hHeld => ?_)
        clear hK K
        try simp only [Act.put, List.setIfInBounds_toArray, List.set_cons_zero, List.set_cons_succ]
        refine take_by 4 81 (v := ?_) rfl rfl (by kernel_rfl) (by kernel_rfl) (by kernel_rfl) (fun _ _ _ h => h) (Or.inl ⟨by rfl, ?_⟩) (by assumption) ?_
        rotate_left
        · (intro w hSw; (try dsimp only at hSw); go_simp; try with_reducible rfl)
        try simp only [List.setIfInBounds_toArray, List.set_cons_zero, List.set_cons_succ]
        refine take_by 6 83 (v := ?_) rfl rfl (by kernel_rfl) (by kernel_rfl) (by kernel_rfl) (fun _ _ _ h => h) (Or.inl ⟨by rfl, ?_⟩) (by assumption) ?_
        rotate_left
        · (intro w hSw; (try dsimp only at hSw); go_simp; try with_reducible rfl)
        try simp only [List.setIfInBounds_toArray, List.set_cons_zero, List.set_cons_succ]
        refine wpAnyH_ready (rs := [7]) (by kernel_rfl) (by simp) ?_
        refine AllReadyH.cons rfl (fun K hK => ?_) AllReadyH.nil
        refine store_blkV 50 (.tmp 6) (.tmp 77) rfl (z + 1) rfl 50 _ [.int .u32 (lN l 1 % 4294967296), .int .u32 (lN l 2 % 4294967296), .int .u32 seed, .int .i64 0, .int .i64 del, .int .i64 ahe, .int .i64 siz, .int .i64 age, .int .i64 mos, .int .i64 rat, .int .i64 bur] rfl (HK4.out.blk B65.out (by simp)) rfl (by kernel_rfl) (cf_one _ _ _ _ _ _ _ _ _ _ _) ?_
        intro w6 hb6 hk6
        have HB6 := hx hb6
        have HK6 := hx hk6
        have B36 := hx (hk6.blk (HK4.out.blk B35.out (by simp)) (by simp))
        refine hK.out _ _ (⟨B36.out.cell (i := 0) rfl, B36.out.cell (i := 1) rfl, B36.out.cell (i := 2) rfl, B36.out.cell (i := 3) rfl, B36.out.cell (i := 4) rfl, B36.out.cell (i := 5) rfl, B36.out.cell (i := 6) rfl, B36.out.cell (i := 7) rfl, B36.out.cell (i := 8) rfl, B36.out.cell (i := 9) rfl, B36.out.cell (i := 10) rfl⟩) (fun hHeld => ?_)
        clear hK K
        try simp only [Act.put, List.setIfInBounds_toArray]
        refine take_by 8 7 (v := ?_) rfl rfl (by kernel_rfl) (by kernel_rfl) (by kernel_rfl) (fun _ _ _ h => h) (Or.inl ⟨by rfl, ?_⟩) (by assumption) ?_
        rotate_left
        · (intro w hSw; (try dsimp only at hSw); go_simp; try with_reducible rfl)
        try simp only [List.setIfInBounds_toArray, List.set_cons_zero, List.set_cons_succ]
        refine wpAnyH_done (by kernel_rfl) ?_ _
        go_wp2_with fail
        refine bodyPost_ret (ret_blk2 rfl _ (z + 1) _ _ _ _ rfl rfl HB6.out Tryd.underlying50 rfl (by kernel_rfl)) rfl ⟨rfl, (K5.out.trans0 HK4.out).trans HK6.out (ds := []) (fun _ h => h) (fun x h => by simp at h; subst h; exact .inr (by omega))⟩
end Go.Proofs.YtdfbofkdlgfblaaDoor
namespace Go.Proofs.YtdfbofkdlgfblaaDoor
open Go Go.RowKit
theorem gN_in {hs : List (List Int)} (h : HdOk hs) (i j : Nat) : in64 (gN hs i j) := by
  unfold gN
  rw [List.getD_eq_getElem?_getD, List.getD_eq_getElem?_getD]
  cases hi : hs[i]? with
  | none => unfold in64; simp
  | some ns =>
    dsimp only [Option.getD_some]
    cases hj : ns[j]? with
    | none => unfold in64; simp
    | some n => exact (h.2 i ns hi).2.2 n (List.mem_of_getElem? hj)
theorem small_wrap {n : Int} (h : smallI n = true) : IntKind.i64.wrap n = n := IntWalk.i64_in _ (by simp only [smallI, Bool.and_eq_true, decide_eq_true_eq] at h; omega)
theorem gN_small {hs : List (List Int)} (h : HdOk hs) : smallI (gN hs 0 0) = true ∧ smallI (gN hs 3 0) = true ∧ smallI (gN hs 3 1) = true := by
  have key : ∀ i j, (∀ ns, hs[i]? = some ns → smallI (ns.getD j 0) = true) → smallI (gN hs i j) = true := by
    intro i j hk
    unfold gN
    rw [List.getD_eq_getElem?_getD (l := hs)]
    cases hi : hs[i]? with
    | none => rfl
    | some ns => exact hk ns hi
  refine ⟨key 0 0 fun ns hi => (h.2 0 ns hi).2.1, key 3 0 fun ns hi => ?_, key 3 1 fun ns hi => ?_⟩
  all_goals
    have ho : (smallI (ns.getD 0 0) && smallI (ns.getD 1 0)) = true := (h.2 3 ns hi).2.1
    simp only [Bool.and_eq_true] at ho
  · exact ho.1
  · exact ho.2
set_option maxRecDepth 100000 in
set_option maxHeartbeats 6400000 in
theorem rhead_long (i : Int) (l : List UInt8) (hl : 200 < l.length) (ses tok seed del ahe siz age mos rat bur : Int) (w : World) :
    Calls Tryd.prog 43 #[.agg #[.int .u32 ses, .int .u32 tok, .int .u32 seed, .int .i64 0, .int .i64 del, .int .i64 ahe, .int .i64 siz, .int .i64 age, .int .i64 mos, .int .i64 rat, .int .i64 bur], .int .i64 i, txt l] w fun e w' =>
      e = .returned (.tuple #[.agg (cfL ses tok seed 0 del ahe siz age mos rat bur).toArray, .bool false]) ∧ Kept [] w w' := by
  have hl200 : (200 : Int) < (l.length : Int) := by omega
  clear hl
  go_enter Tryd.func43, Tryd.ntmps43
  go_upto_region 2 with fail
  have B3 := hx ((Blk.new w [.int .u32 ses, .int .u32 tok, .int .u32 seed, .int .i64 0, .int .i64 del, .int .i64 ahe, .int .i64 siz, .int .i64 age, .int .i64 mos, .int .i64 rat, .int .i64 bur] 50).alloc (.cells (cfL 0 0 0 0 0 0 0 0 0 0 0).toArray 50))
  have B6 := hx (Blk.at (w.alloc (.cells #[.int .u32 ses, .int .u32 tok, .int .u32 seed, .int .i64 0, .int .i64 del, .int .i64 ahe, .int .i64 siz, .int .i64 age, .int .i64 mos, .int .i64 rat, .int .i64 bur] 50)) (w.heap.size + 1) (by simp) (cfL 0 0 0 0 0 0 0 0 0 0 0) 50)
  have K1 := hx (((Kept.refl [] w).alloc (.cells #[.int .u32 ses, .int .u32 tok, .int .u32 seed, .int .i64 0, .int .i64 del, .int .i64 ahe, .int .i64 siz, .int .i64 age, .int .i64 mos, .int .i64 rat, .int .i64 bur] 50)).alloc (.cells (cfL 0 0 0 0 0 0 0 0 0 0 0).toArray 50))
  simp only [cfL] at B3 B6 K1
  generalize World.alloc (World.alloc w _) _ = w1 at *
  go_wp2_with (first
    | (refine load_blk rfl 50 (.tmp 3) rfl w.heap.size rfl 50 _ _ B3.out Tryd.underlying50 rfl (by kernel_rfl) ?_)
    | (refine store_blk rfl 50 (.tmp 6) (.tmp 14) rfl (w.heap.size + 1) rfl 50 _ (cfL ses tok seed 0 del ahe siz age mos rat bur) rfl B6.out rfl (by kernel_rfl) (cf_one _ _ _ _ _ _ _ _ _ _ _) ?_; intro w4 hb4 hk4; have HB4 := hx hb4; have HK4 := hx hk4; clear hb4 hk4))
  exact bodyPost_ret (ret_blk2 rfl _ (w.heap.size + 1) _ _ _ _ rfl rfl HB4.out Tryd.underlying50 rfl (by kernel_rfl)) rfl ⟨rfl, K1.out.trans HK4.out (fun _ h => h) (fun x h => by simp at h; subst h; exact .inr (by omega))⟩
/-- What head answers: X is the config with the line, where it is one. -/
theorem rhead_cf (hs : List (List Int)) (h : hs.length < 4) (ho : HdOk hs) (l : List UInt8) (w : World) :
    Calls Tryd.prog 43 #[.agg (cfOf hs).toArray, .int .i64 (hs.length : Int), txt l] w fun e w' =>
      ∃ X, (∃ a b c d e f g h i j k, X = cfL a b c d e f g h i j k) ∧ e = .returned (.tuple #[.agg X.toArray, .bool (hlL hs.length l).isSome]) ∧ (∀ ns, hlL hs.length l = some ns → X = cfOf (hs ++ [ns])) ∧ Kept [] w w' := by
  by_cases hl : 200 < l.length
  · refine (rhead_long (hs.length : Int) l hl (gN hs 3 0) (gN hs 3 1) (gN hs 0 0) (gN hs 0 1) (gN hs 0 2) (gN hs 1 0) (gN hs 1 1) (gN hs 1 2) (gN hs 2 0) (gN hs 2 1) w).mono ?_
    rintro e w' ⟨rfl, hk⟩
    have hn : hlL hs.length l = none := by
      cases hq : hlL hs.length l with
      | none => rfl
      | some ns => exact absurd (hl_len hq) (by omega)
    rw [hn]
    exact ⟨cfOf hs, ⟨_, _, _, _, _, _, _, _, _, _, _, rfl⟩, rfl, fun ns hh => by simp at hh, hk⟩
  · have key : ∀ (e : Ending) (w' : World), (e = .returned (.tuple #[.agg (hdC hs.length l (gN hs 3 0) (gN hs 3 1) (gN hs 0 0) (gN hs 0 1) (gN hs 0 2) (gN hs 1 0) (gN hs 1 1) (gN hs 1 2) (gN hs 2 0) (gN hs 2 1)).toArray, .bool (accL (headW hs.length) (hdN hs.length l) == l)]) ∧ Kept [] w w') →
        ∃ X, (∃ a b c d e f g h i j k, X = cfL a b c d e f g h i j k) ∧ e = .returned (.tuple #[.agg X.toArray, .bool (hlL hs.length l).isSome]) ∧ (∀ ns, hlL hs.length l = some ns → X = cfOf (hs ++ [ns])) ∧ Kept [] w w' := by
      rintro e w' ⟨rfl, hk⟩
      rw [hdC_of hs h]
      refine ⟨cfOf (hs ++ [hdN hs.length l]), ⟨_, _, _, _, _, _, _, _, _, _, _, rfl⟩, ?_, fun ns hh => ?_, hk⟩
      · rw [hd_iff h l]
        by_cases hq : accL (headW hs.length) (hdN hs.length l) = l
        · rw [if_pos hq, beq_iff_eq.2 hq]; rfl
        · rw [if_neg hq, beq_eq_false_iff_ne.2 hq]; rfl
      · rw [hd_some h hh]
    obtain ⟨s0, s1, s2⟩ := gN_small ho
    have hcs : hs.length = 0 ∨ hs.length = 1 ∨ hs.length = 2 ∨ hs.length = 3 := by omega
    have hl2 : l.length ≤ 200 := by omega
    rcases hcs with e | e | e | e
    all_goals
      rw [e] at key ⊢
      refine Calls.mono ?_ key
    · exact rhead_0 l hl2 _ _ _ _ _ _ _ _ _ _ w (gN_in ho _ _) (gN_in ho _ _) (gN_in ho _ _) (gN_in ho _ _) (gN_in ho _ _) (gN_in ho _ _) (gN_in ho _ _) (gN_in ho _ _) (gN_in ho _ _) (gN_in ho _ _) (small_wrap s0) (small_wrap s1) (small_wrap s2)
    · exact rhead_1 l hl2 _ _ _ _ _ _ _ _ _ _ w (gN_in ho _ _) (gN_in ho _ _) (gN_in ho _ _) (gN_in ho _ _) (gN_in ho _ _) (gN_in ho _ _) (gN_in ho _ _) (gN_in ho _ _) (gN_in ho _ _) (gN_in ho _ _) (small_wrap s0) (small_wrap s1) (small_wrap s2)
    · exact rhead_2 l hl2 _ _ _ _ _ _ _ _ _ _ w (gN_in ho _ _) (gN_in ho _ _) (gN_in ho _ _) (gN_in ho _ _) (gN_in ho _ _) (gN_in ho _ _) (gN_in ho _ _) (gN_in ho _ _) (gN_in ho _ _) (gN_in ho _ _) (small_wrap s0) (small_wrap s1) (small_wrap s2)
    · exact rhead_3 l hl2 _ _ _ _ _ _ _ _ _ _ w (gN_in ho _ _) (gN_in ho _ _) (gN_in ho _ _) (gN_in ho _ _) (gN_in ho _ _) (gN_in ho _ _) (gN_in ho _ _) (gN_in ho _ _) (gN_in ho _ _) (gN_in ho _ _) (small_wrap s0) (small_wrap s1) (small_wrap s2)
end Go.Proofs.YtdfbofkdlgfblaaDoor
