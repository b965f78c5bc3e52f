/- The program's Parse, of a text that is not too long. -/
import Derived.Test.YtdfbofkdlgfblaaDoorSeF
import Derived.Test.YtdfbofkdlgfblaaDoorSeH
import Derived.RangeFuncLeaves
import Derived.Sort.CutIn
namespace Go.Proofs.YtdfbofkdlgfblaaDoor
open Go Go.RowKit Go.Shelf
attribute [local go_sem] Oper.semAt_some
abbrev ocS : Obj := .cells #[.int .u32 0, .int .u32 0, .int .u32 0, .int .i64 0, .int .i64 0, .int .i64 0, .int .i64 0, .int .i64 0, .int .i64 0, .int .i64 0, .int .i64 0, .slice none 0 0] 46
theorem pa_start (w0 : World) : PaI w0 w0.heap.size 0 ([], []) (.slice none 0 0) (.slice none 0 0) []
    ((((((w0.alloc ocS).alloc (.cells #[.int .i64 0] 3)).alloc (.cells #[.int .i64 0] 29)).alloc ocS).alloc (.cells #[.slice none 0 0] 82)).alloc (.cells #[.int .i64 0] 3)) :=
  ⟨(((((Blk.at _ _ rfl (scV (.slice none 0 0)) _).alloc _).alloc _).alloc _).alloc _).alloc _,
    ((((Blk.at _ _ (by simp) [.int .i64 0] _).alloc _).alloc _).alloc _).alloc _,
    (((Blk.at _ _ (by simp) [.int .i64 0] _).alloc _).alloc _).alloc _,
    ((Blk.at _ _ (by simp) (scV (.slice none 0 0)) _).alloc _).alloc _,
    (Blk.at _ _ (by simp) [.slice none 0 0] _).alloc _,
    Blk.at _ _ (by simp) [.int .i64 0] _, World.ownsRow_nil _ _ _ _, fun i u ns h => by simp at h, World.ownsRow_nil _ _ _ _,
    ((((((Kept.refl [] w0).alloc _).alloc _).alloc _).alloc _).alloc _).alloc _⟩
theorem numT_at : ∀ {ls : List (List UInt8)} {k : Nat} {pre : List (Int × List UInt8)} {x : Int × List UInt8}, pre ++ [x] <+: numT k ls → x.1 = (k : Int) + (pre.length : Int) + 1 ∧ ∃ more, ls = pre.map (·.2) ++ x.2 :: more
  | [], k, pre, x, ⟨t, h⟩ => by simp [numT] at h
  | l :: ls, k, [], x, ⟨t, h⟩ => by
    simp only [numT, List.nil_append, List.singleton_append, List.cons.injEq] at h
    obtain ⟨rfl, h2⟩ := h
    exact ⟨by simp, ls, by simp⟩
  | l :: ls, k, p :: pre, x, ⟨t, h⟩ => by
    simp only [numT, List.cons_append, List.cons.injEq] at h
    obtain ⟨rfl, h2⟩ := h
    obtain ⟨h3, more, h4⟩ := numT_at (ls := ls) (k := k + 1) (pre := pre) (x := x) ⟨t, h2⟩
    refine ⟨by rw [h3]; push_cast [List.length_cons]; omega, more, by rw [h4]; rfl⟩
theorem numT_snd : ∀ (k : Nat) (ls : List (List UInt8)), (numT k ls).map (·.2) = ls
  | _, [] => rfl
  | k, x :: r => by rw [numT, List.map_cons, numT_snd]
theorem lineS_in : ∀ (t l : List UInt8), l ∈ lineS t → l.length ≤ t.length + 1
  | [], l, h => by simp [lineS] at h
  | c :: r, l, h => by
    rw [lineS] at h
    split at h
    · rcases List.mem_cons.1 h with rfl | h
      · simp
      · have := lineS_in r l h; simp; omega
    · cases hr : lineS r with
      | nil => rw [hr] at h; simp at h; subst h; simp
      | cons a b =>
        rw [hr] at h
        rcases List.mem_cons.1 h with rfl | h
        · have := lineS_in r a (by rw [hr]; simp); simp; omega
        · have := lineS_in r l (by rw [hr]; simp [h]); simp; omega
/-- Where the loop stands. -/
def LpI (w0 : World) (z : Nat) (pre : List (Int × List UInt8)) (W : World) : Prop :=
  ∃ s hv av us, PaI w0 z pre.length s hv av us W ∧ AtP (pre.map (·.2)) s ∧ HdOk s.1 ∧ XsOk s.2 ∧ z + 7 ≤ W.heap.size
/-- What it left. -/
def LpX (w0 : World) (z : Nat) (ls : List (List UInt8)) (c : Code) (W : World) : Prop :=
  c = .ret ∧ ∃ n e, parseF ([], []) 0 ls = .error (n, e) ∧ Blk W z (scV (.slice none 0 0)) 46 ∧ Blk W (z + 1) [.int .i64 n] 3 ∧ Blk W (z + 2) [.int .i64 e] 29 ∧ Kept [] w0 W
theorem keptE_kept {w0 A C : World} {B D : Nat} (h : Kept [] w0 A) (hk : KeptE B D A C) (hB : w0.heap.size ≤ B) (hD : w0.heap.size ≤ D) : Kept [] w0 C :=
  ⟨hk.os.trans h.os, hk.tape.trans h.tape, hk.output.trans h.output, Nat.le_trans h.size hk.size, fun j hj hn => by
    have hjA : j < A.heap.size := Nat.lt_of_lt_of_le hj h.size
    rw [hk.block j _ (Array.getElem?_eq_getElem hjA) (by omega) (.inl (by omega))]
    exact h.block j hj hn⟩
theorem LpX.keptE {w0 A C : World} {z D : Nat} {ls : List (List UInt8)} {c : Code} (h : LpX w0 z ls c A) (hk : KeptE (z + 6) D A C) (hz : w0.heap.size = z) (hD : z ≤ D) : LpX w0 z ls c C := by
  obtain ⟨h1, n, e, h2, h3, h4, h5, h6⟩ := h
  exact ⟨h1, n, e, h2, hk.blk h3 (by omega), hk.blk h4 (by omega), hk.blk h5 (by omega), keptE_kept h6 hk (by omega) (by omega)⟩
theorem kpB_put {B : Nat} {w : World} (hB : B < w.heap.size) (W : World) (l : Nat) (o' : Obj) (hl : w.heap.size ≤ l) : KpB B W (W.putObj l o') :=
  ⟨World.putObj_heap_other (by omega), by simp [World.putObj]⟩
theorem own_sl {w : World} {base size n : Nat} {e : TypeId} {v : Value} {xs : List Value} (h : w.ownsRow base e size v n xs) : ∃ a c, v = .slice a n c := by
  rcases h.2 with ⟨rfl, h0⟩ | ⟨g, cap, cur, rfl, _⟩
  · exact ⟨none, 0, by rw [h0]⟩
  · exact ⟨_, _, rfl⟩
theorem store_blkW {P : Program} {w : World} {o : Oper} {a : Act} {K : Act → World → Prop} {Q : Exit → Act → World → Prop} (ty : TypeId) (x y : Operand) (ho : o.op = .store ty x y)
    (g : Nat) (hx : a.eval x = .pointer (some ⟨g, 0, none⟩)) (T : TypeId) (xs ys : List Value) (hy : a.eval y = .agg ys.toArray) (hb : Blk w g xs T) (hl : ys.length = xs.length)
    (hi : (P.info? ty).map (·.size) = some ys.length) (h1 : ∀ v ∈ ys, v.oneCell' = true)
    (h : ∀ w', Blk w' g ys T → Kept [g] w w' → K (a.put o.dst undef) w') : o.wp P a w K Q :=
  wp_store_mid ty x y ho g 0 ys.toArray hx hy (hb.there (by simp [hl])) (by simpa using hi) (all_oneCell_toArray h1)
    (h _ (by
      have e := hb.setCells 0 ys
      rw [setAll_all _ _ hl] at e
      simpa using e) ((Kept.refl _ _).setCells (by simp) 0 _))
theorem kept_others {A C : World} {g : Nat} {xs : List Value} {T : TypeId} (hk : Kept [g] A C) (hb : Blk A g xs T) : KeepsOthers A C :=
  ⟨hk.size, fun k o ho hc => by
    have hne : k ≠ g := by
      rintro rfl
      unfold Blk at hb
      rw [hb] at ho
      simp only [Option.some.injEq] at ho
      subst ho
      cases hc
    rw [hk.block k (Array.getElem?_eq_some_iff.1 ho).1 (by simpa using hne)]
    exact ho⟩
theorem kept0_others {A C : World} (hk : Kept [] A C) : KeepsOthers A C := ⟨hk.size, fun k o ho _ => by rw [hk.block k (Array.getElem?_eq_some_iff.1 ho).1 (by simp)]; exact ho⟩
theorem kept0_b {A C : World} {B : Nat} (hk : Kept [] A C) (hB : B < A.heap.size) : KpB B A C := ⟨hk.block B hB (by simp), hk.size⟩
theorem infoSl : (Tryd.prog.info? 65).map (fun i => (i.zero, i.size, i.bytes)) = some (some (.slice none 0 0), 1, 24) := by kernel_rfl
theorem infoAc : (Tryd.prog.info? 28).map (fun i => (i.zero, i.size, i.bytes)) = some (some (.agg (ints (base6 0)).toArray), 6, 48) := by kernel_rfl
theorem kpB_of {x i B base size n : Nat} {E : TypeId} {A A2 A3 : World} {v u : Value} {xs : List Value} (k1 : Kept [] A A2) (ho : A2.ownsRow base E size v n xs) (hg : A2.grownBy A3 v.ownBlock) (hB : B < A.heap.size) (hBb : B < base) (hx : B ≠ x) : KpB B A (A3.setCell ⟨x, i, none⟩ u) :=
  ⟨by
    rw [Below.heap_setCell _ _ _ _ (by simpa using hx), hg.block B (Nat.lt_of_lt_of_le hB k1.size) (fun e => by have := (own_celled ho e.symm).1; omega)]
    exact k1.block B hB (by simp), by have := hg.size; have := k1.size; simp; omega⟩
/-- The end of a round that tells an error. -/
theorem lp_bad {w0 W A C : World} {z : Nat} {ls : List (List UInt8)} {n e : Int} (hk : Kept [] w0 A) (hz : w0.heap.size = z) (ho : KeepsOthers W A) (h3 : Blk A (z + 1) [.int .i64 0] 3) (h4 : Blk A (z + 2) [.int .i64 0] 29) (hb0 : Blk A z (scV (.slice none 0 0)) 46)
    (hkc : Kept [z] A C) (hb : Blk C z (scV (.slice none 0 0)) 46) (hp : parseF ([], []) 0 ls = .error (n, e)) :
    KeepsOthers W ((C.setCell ⟨z + 1, 0, none⟩ (.int .i64 n)).setCell ⟨z + 2, 0, none⟩ (.int .i64 e)) ∧ LpX w0 z ls .ret ((C.setCell ⟨z + 1, 0, none⟩ (.int .i64 n)).setCell ⟨z + 2, 0, none⟩ (.int .i64 e)) :=
  ⟨((ho.trans (kept_others hkc hb0)).trans (KeepsOthers.setCell _ _ _)).trans (KeepsOthers.setCell _ _ _),
    rfl, n, e, hp, (hb.set_ne (by simp) _).set_ne (by simp) _, ((hkc.blk h3 (by simp)).set 0 _).set_ne (by simp) _, ((hkc.blk h4 (by simp)).set_ne (by simp) _).set 0 _,
    ((hk.trans hkc (ds := []) (fun _ h => h) (fun x h => by simp at h; subst h; exact .inr (by omega))).setCell (.inr (by simp; omega)) _).setCell (.inr (by simp; omega)) _⟩
/-- The end of Parse, where an error is told. -/
theorem end_bad {w0 C : World} {z D : Nat} {po : Except (Int × Int) PSt} {n e : Int} {t : Array Value} (hz : w0.heap.size = z) (hD : z ≤ D) (hpo : po = .error (n, e))
    (h2 : t.getD 2 undef = .pointer (some ⟨z, 0, none⟩)) (h3 : t.getD 3 undef = .pointer (some ⟨z + 1, 0, none⟩)) (h4 : t.getD 4 undef = .pointer (some ⟨z + 2, 0, none⟩))
    (b2 : Blk C z (scV (.slice none 0 0)) 46) (b3 : Blk C (z + 1) [.int .i64 n] 3) (b4 : Blk C (z + 2) [.int .i64 e] 29) (k : Kept [] w0 C) (hk : C.heap[D]? = some (.deferred (some []))) :
    bodyPostM Fence.wide 6 Tryd.prog Tryd.f20 (fun e w' => PaQ po w0 e w') Exit.ret { tmps := t, defers := [{ target := .collected D, args := #[] }] } C := by
  have hkn := keptN_put (B := D) C D _ (.deferred none) (Nat.le_refl _) hk rfl
  refine ⟨by simp, .inl ⟨_, _, rfl, run_takeDeferred hk, ?_⟩⟩
  refine ⟨_, ret_cells3 rfl _ z (z + 1) (z + 2) _ _ _ _ _ _ _ h2 h3 h4 (hkn.blk b2) Tryd.underlying46 rfl (by kernel_rfl) ((hkn.blk b3).cell (i := 0) rfl) Tryd.underlying3 rfl ((hkn.blk b4).cell (i := 0) rfl) Tryd.underlying29 rfl, ?_⟩
  rw [hpo]
  exact ⟨k.grown (grownBy_putObj' C D _) (fun j e => by cases e; exact .inr (by omega)), rfl⟩
theorem own_keptN {B base size n : Nat} {E : TypeId} {A C : World} {v : Value} {xs : List Value} (h : A.ownsRow base E size v n xs) (hk : KeptN B A C) : C.ownsRow base E size v n xs := by
  refine ⟨h.1, ?_⟩
  rcases h.2 with h0 | ⟨g, cap, cur, hv, hb, hg, h4⟩
  · exact .inl h0
  · exact .inr ⟨g, cap, cur, hv, hb, by rw [hk.block g _ hg (.inr rfl)]; exact hg, h4⟩
theorem actsC_at : ∀ (xs : List (List Int)), (∀ x, x ∈ xs → x.length = 6 ∧ ∀ n, n ∈ x → in64 n) → ∀ (i : Nat) x, xs[i]? = some x → ∀ j, j < 6 → (actsC xs)[i * 6 + j]? = (ints x)[j]?
  | [], _, i, x, h, j, hj => by simp at h
  | y :: ys, h6, 0, x, h, j, hj => by
    simp only [List.getElem?_cons_zero, Option.some.injEq] at h
    subst h
    have hl : (ints y).length = 6 := by rw [ints_len]; exact (h6 y (by simp)).1
    simp only [actsC, List.flatMap_cons, Nat.zero_mul, Nat.zero_add]
    rw [List.getElem?_append_left (by omega)]
  | y :: ys, h6, i + 1, x, h, j, hj => by
    rw [List.getElem?_cons_succ] at h
    have hl : (ints y).length = 6 := by rw [ints_len]; exact (h6 y (by simp)).1
    have e := actsC_at ys (fun x hx => h6 x (by simp [hx])) i x h j hj
    simp only [actsC, List.flatMap_cons] at e ⊢
    rw [List.getElem?_append_right (by omega), ← e]
    congr 1
    omega
theorem own_acr {W : World} {B : Nat} {av : Value} {xs : List (List Int)} (h : W.ownsRow B 28 6 av xs.length (actsC xs)) (hx : XsOk xs) : ∃ a c, av = .slice a xs.length c ∧ AcR W a xs := by
  rcases h.2 with ⟨rfl, h0⟩ | ⟨g, cap, cur, rfl, hb, hg, _, _, hcs, ht⟩
  · refine ⟨none, 0, by rw [h0], fun i x hi => ?_, hx.2⟩
    have := (List.getElem?_eq_some_iff.1 hi).1
    omega
  · refine ⟨_, cap, rfl, fun i x hi => ⟨g, 0, rfl, (Array.getElem?_eq_some_iff.1 hg).1, fun j v hj => ?_⟩, hx.2⟩
    have hil := (List.getElem?_eq_some_iff.1 hi).1
    have hl : x.length = 6 := (hx.2 x (List.mem_of_getElem? hi)).1
    have hj6 : j < 6 := by have := (List.getElem?_eq_some_iff.1 hj).1; rw [ints_len] at this; omega
    have e := actsC_at xs hx.2 i x hi j hj6
    rw [hj, ← ht, List.getElem?_take_of_lt (by omega)] at e
    rw [Nat.zero_add]
    exact (show Blk W g cur.toList 28 from hg).cell e
theorem sc_one {w0 W : World} {z k : Nat} {s : PSt} {hv av : Value} {us : List Value} (h : PaI w0 z k s hv av us W) : ∀ v ∈ cfOf s.1 ++ [av], v.oneCell' = true := by
  intro v hv
  rcases List.mem_append.1 hv with hv | hv
  · exact cf_one _ _ _ _ _ _ _ _ _ _ _ v hv
  · obtain ⟨a, c, he⟩ := own_sl h.ar
    simp only [List.mem_singleton] at hv
    subst hv
    rw [he]
    rfl
/-- The end of Parse, where all is well. -/
theorem end_good {w0 A C : World} {z D k : Nat} {po : Except (Int × Int) PSt} {s : PSt} {hv av : Value} {us : List Value} {t : Array Value} (hz : w0.heap.size = z) (hD : z + 7 ≤ D) (hpo : po = .ok s) (hX : XsOk s.2)
    (hP : PaI w0 z k s hv av us A)
    (h2 : t.getD 2 undef = .pointer (some ⟨z, 0, none⟩)) (h3 : t.getD 3 undef = .pointer (some ⟨z + 1, 0, none⟩)) (h4 : t.getD 4 undef = .pointer (some ⟨z + 2, 0, none⟩))
    (b2 : Blk C z (cfOf s.1 ++ [av]) 46) (b3 : Blk C (z + 1) [.int .i64 0] 3) (b4 : Blk C (z + 2) [.int .i64 0] 29) (hac : Kept [z + 3, z, z + 1, z + 2] A C) (hk : C.heap[D]? = some (.deferred (some []))) :
    bodyPostM Fence.wide 6 Tryd.prog Tryd.f20 (fun e w' => PaQ po w0 e w') Exit.ret { tmps := t, defers := [{ target := .collected D, args := #[] }] } C := by
  have hkn := keptN_put (B := D) C D _ (.deferred none) (Nat.le_refl _) hk rfl
  refine ⟨by simp, .inl ⟨_, _, rfl, run_takeDeferred hk, ?_⟩⟩
  refine ⟨_, ret_cells3 rfl _ z (z + 1) (z + 2) _ _ _ _ _ _ _ h2 h3 h4 (hkn.blk b2) Tryd.underlying46 rfl (by kernel_rfl) ((hkn.blk b3).cell (i := 0) rfl) Tryd.underlying3 rfl ((hkn.blk b4).cell (i := 0) rfl) Tryd.underlying29 rfl, ?_⟩
  rw [hpo]
  have ha := own_keptN (own_set2 hP.ar hac (fun b hb => by simp at hb; omega)) hkn
  obtain ⟨a, c, hav, hac2⟩ := own_acr ha hX
  subst hav
  exact ⟨(hP.k0.trans hac (ds := []) (fun _ h => by simp at h) (fun x h => by simp at h; exact .inr (by omega))).grown (grownBy_putObj' C D _) (fun j e => by cases e; exact .inr (by omega)), a, c, rfl, hac2⟩
set_option maxRecDepth 100000 in
set_option maxHeartbeats 12800000 in
theorem pparse_short (text : List UInt8) (m : Int) (w0 : World) (hl : text.length ≤ 65536) (hm : w0.cell? ⟨0, 0, none⟩ = some (.int .i64 m)) :
    Calls Tryd.prog 20 #[txt text] w0 fun e w' => PaQ (parseF ([], []) 0 (lineS text)) w0 e w' := by
  have hil : ¬ (65536 : Int) < (text.length : Int) := by omega
  have HL := hx hl
  have HM := hx (fun w1 (hk : Kept [] w0 w1) => (by rw [hk.cell (World.block_lt_of_cell? _ _ hm) (by simp)]; exact hm : w1.cell? ⟨0, 0, none⟩ = some (.int .i64 m)))
  clear hl hm
  obtain ⟨po, hpo⟩ : ∃ o, o = parseF ([], []) 0 (lineS text) := ⟨_, rfl⟩
  rw [← hpo]
  have HPO := hx hpo
  clear hpo
  refine (callsIn_wide (n := 6)).1 ?_
  refine callsIn_of_wp_marks Tryd.func20 rfl trivial ?_ rfl
  simp only [Tryd.ntmps20, List.size_toArray, List.length_cons, List.length_nil, Nat.reduceAdd, Nat.reduceSub, Array.replicate_succ, Array.replicate_zero, List.push_toArray, List.append_toArray, List.nil_append, List.cons_append]
  refine wpIn_wide.2 ?_
  go_upto_region 6 with fail
  simp only [Nat.add_assoc, Nat.reduceAdd]
  have P1 := hx (pa_start w0)
  have HS1 := hx (show ((((((w0.alloc ocS).alloc (.cells #[.int .i64 0] 3)).alloc (.cells #[.int .i64 0] 29)).alloc ocS).alloc (.cells #[.slice none 0 0] 82)).alloc (.cells #[.int .i64 0] 3)).heap.size = w0.heap.size + 6 by simp)
  simp only [ocS] at P1 HS1
  generalize World.alloc (World.alloc (World.alloc (World.alloc (World.alloc (World.alloc w0 _) _) _) _) _) _ = w1 at *
  generalize hz : w0.heap.size = z at *
  have HZ := hx hz
  clear hz
  go_wp2_with fail
  refine (lines_any text w1).mono ?_
  rintro e w5 ⟨rfl, rfl⟩
  have BT := hx (Blk.new w1 [txt text] 9)
  rw [HS1.out] at BT ⊢
  have P2 := hx (P1.out.kept ((Kept.refl [] w1).alloc (.cells #[txt text] 9)))
  have HS2 := hx (show (w1.alloc (.cells #[txt text] 9)).heap.size = z + 7 by simp [HS1.out])
  clear P1
  generalize World.alloc w1 _ = w2 at *
  have HST := hx (lines_stops 5 (z + 6) text w2 BT.out (by have := HL.out; omega) (by omega))
  go_wp2_with fail
  refine (wpIn_wide (n := 6)).1 ?_
  apply rangeE (F := Fence.wide) (n := 6) (gf := 48) (lb := #[.pointer (some ⟨z + 6, 0, none⟩)]) (encs := encT) (Kp := KpB (z + 6)) (S := fun xs => xs = numT 0 (lineS text)) (Sp := fun pre => pre <+: numT 0 (lineS text)) (N := (numT 0 (lineS text)).length) (Bt := z + 6) rfl (by omega) rfl trivial (enters_of Tryd.func48 (by kernel_rfl) rfl) (by rw [HS2.out]; omega) HST.out KpB.trans (fun W l o o' hl _ _ => kpB_put (by rw [HS2.out]; omega) W l o' hl) (fun _ => rfl)
    (LpI w0 z) (fun c _ W => LpX w0 z (lineS text) c W)
    (fun pre A C ⟨s, hv, av, us, h1, h2, h3, h4, h5⟩ hk => ⟨s, hv, av, us, h1.keptE hk HZ.out (by rw [HS2.out]; omega), h2, h3, h4, Nat.le_trans h5 hk.size⟩)
    (fun c pre A C h hk => h.keptE hk HZ.out (by rw [HS2.out]; omega))
    ⟨_, _, _, _, P2.out, AtP.nil, ⟨by simp, fun i ns h => by simp at h⟩, ⟨by simp, fun x h => by simp at h⟩, by rw [HS2.out]; exact Nat.le_refl _⟩
  case hassign =>
    intro l x W K hK
    gi_wp2
    exact hK
  case hbody =>
    rintro l pre ⟨xi, xl⟩ W ⟨s, hv, av, us, hP, hA, hH, hX, hZ7⟩ hlen hsp
    obtain ⟨hxi, more, hls⟩ := numT_at hsp
    have hxe : xi = (pre.length : Int) + 1 := by simpa using hxi
    dsimp only at hls
    have hxl : xl.length ≤ 65537 := by have := lineS_in text xl (by rw [hls]; simp); have := HL.out; omega
    have P1 := hx (show PaI w0 z (pre ++ [(xi, xl)]).length s hv av us (W.setCell ⟨z + 5, 0, none⟩ (.int .i64 xi)) by
      have h := hP.last HZ.out (pre.length + 1)
      rw [show ((pre.length + 1 : Nat) : Int) = xi by rw [hxe]; push_cast; rfl] at h
      rw [List.length_append, List.length_singleton]
      exact h)
    have O1 := hx (KeepsOthers.setCell W ⟨z + 5, 0, none⟩ (.int .i64 xi))
    have E1 := hx (show KpB (z + 6) W (W.setCell ⟨z + 5, 0, none⟩ (.int .i64 xi)) from ⟨Below.heap_setCell _ _ _ _ (by simp), by simp⟩)
    have c7 := hP.p7.cell (i := 0) rfl
    have f7 := hP.p7.free 0
    have HA := hx hA
    have HH := hx hH
    have HX := hx hX
    have HLS := hx (And.intro hls hxe)
    have HXL := hx hxl
    have HZ6 := hx (show z + 7 ≤ (W.setCell ⟨z + 5, 0, none⟩ (.int .i64 xi)).heap.size by simp; exact hZ7)
    clear hP hA hH hX hlen hsp hxi hxe hls hxl hZ7
    gi_upto_region 10 with fail
    clear c7 f7
    generalize World.setCell W _ _ = W1 at *
    obtain ⟨ha, hc, rfl⟩ := own_sl P1.out.hr
    have c6 := P1.out.p6.cell (i := 0) rfl
    by_cases h4 : s.1.length < 4
    · have hil : (s.1.length : Int) < 4 := by omega
      have HHL := hx (headline_any s.1.length h4 xl m W1 (by have := HXL.out; omega) (HM.out W1 P1.out.k0))
      cases hq : hlL s.1.length xl with
      | none =>
        rw [hq] at HHL
        have HST := hx (show stepP s xl = .error 320 by unfold stepP; rw [if_pos h4, hq])
        clear hq h4
        gi_wp2_with (first
          | (refine ⟨trivial, ?_⟩; gi_at_call 41; refine (CallsIn.inRound l (callsIn_wide.2 HHL.out)).mono ?_; rintro e w4 ⟨hk4, rfl⟩; have P4 := hx (P1.out.kept hk4); have O4 := hx (O1.out.trans (kept0_others hk4)); clear hk4 c6)
          | (refine store_blkF rfl 46 (.tmp 2) (.tmp 35) rfl z rfl 46 _ (scV (.slice none 0 0)) rfl P4.out.p2 rfl (by kernel_rfl) (by decide) ?_; intro w5 hb5 hk5; have HB5 := hx hb5; have HK5 := hx hk5; have c3 := (hk5.blk P4.out.p3 (by simp)).cell (i := 0) rfl; have c4 := (hk5.blk P4.out.p4 (by simp)).cell (i := 0) rfl; have f3 := (hk5.blk P4.out.p3 (by simp)).free 0; have f4 := (hk5.blk P4.out.p4 (by simp)).free 0; clear hb5 hk5))
        have hbad := HA.out.bad HST.out more
        rw [List.length_map, ← HLS.out.1, ← HLS.out.2] at hbad
        exact lp_bad P4.out.k0 HZ.out O4.out P4.out.p3 P4.out.p4 P4.out.p2 HK5.out HB5.out hbad
      | some ns =>
        rw [hq] at HHL
        have HST := hx (show stepP s xl = .ok (s.1 ++ [ns], s.2) by unfold stepP; rw [if_pos h4, hq])
        have HHS := hx (HH.out.snoc h4 hq)
        have hne : ns ≠ [] := by
          have h := (hl_some hq).1
          rintro rfl
          unfold headC at h
          simp only [List.length_nil] at h
          repeat' split at h
          all_goals omega
        have HNE := hx hne
        have HS4 := hx h4
        clear hq h4 hne
        gi_wp2_with (first
          | (refine ⟨trivial, ?_⟩; gi_at_call 41; refine (CallsIn.inRound l (callsIn_wide.2 HHL.out)).mono ?_; rintro e w4 ⟨hk4, u, rfl, hu⟩; have P4 := hx (P1.out.kept hk4); have O4 := hx (O1.out.trans (kept0_others hk4)); have E4 := hx (E1.out.trans (kept0_b hk4 (by have := HZ6.out; omega))); have Z4 := hx (Nat.le_trans HZ6.out hk4.size); have HU := hx (RwI.of hu HNE.out HZ6.out); obtain ⟨ua, uc, rfl⟩ := own_sl hu; clear hk4 c6 hu; have c6 := P4.out.p6.cell (i := 0) rfl)
          | (gi_at_builtin; refine wpListIn_app rfl (.tmp 37) (.tmp 39) 82 rfl (z + 7) 65 (.slice none 0 0) 1 24 infoSl Tryd.underlying82 rfl (by omega) (.slice ha s.1.length hc) s.1.length us rfl (World.ownsRow.alloc P4.out.hr _) (some ⟨_, 0, none⟩) 1 1 [.slice ua ns.length uc] rfl rfl (by simp) (by omega) (newsB (Blk.new _ [.slice ua ns.length uc] 65)) (by intro v hv; simp at hv; subst hv; rfl) (by have := HS4.out; simp [maxLen]; omega) (by have := HS4.out; omega) (by have := Z4.out; simp; omega) ?_; intro v8 w8 ho8 hg8; obtain ⟨ga, gc, rfl⟩ := own_sl ho8; have HO8 := hx ho8; have HG8 := hx hg8; have d6 := grown_blk hg8 (P4.out.p6.alloc _) (fun e => by have := (own_celled P4.out.hr e.symm).1; omega); clear c6; have c6 := d6.cell (i := 0) rfl; have f6 := d6.free 0; clear d6 ho8 hg8))
        have hka := (Kept.refl [] w4).alloc (.cells #[.slice ua ns.length uc] 65)
        have hoa := World.ownsRow.alloc P4.out.hr (.cells #[.slice ua ns.length uc] 65)
        obtain ⟨ug, ucc, ucur, h1, h2, h3, h5⟩ := HU.out
        have E8 := E4.out.trans (kpB_of (x := z + 4) (i := 0) (u := .slice ga (s.1.length + 1) gc) hka hoa HG8.out (by have := Z4.out; omega) (by omega) (by omega))
        refine ⟨O4.out.trans (others_of hka hoa HG8.out), E8, (s.1 ++ [ns], s.2), .slice ga (s.1.length + 1) gc, av, us ++ [.slice ua ns.length uc], P4.out.head HZ.out hka ⟨ug, ucc, ucur, h1, h2, h3.alloc _, h5⟩ HG8.out HO8.out, ?_, HHS.out, HX.out, ?_⟩
        · rw [List.map_append]
          exact HA.out.next HST.out
        · have h := (kpB_of (x := z + 4) (i := 0) (u := .slice ga (s.1.length + 1) gc) hka hoa HG8.out (B := z + 6) (by have := Z4.out; omega) (by omega) (by omega)).2
          exact Nat.le_trans Z4.out h
    · have hil : ¬ (s.1.length : Int) < 4 := by omega
      have HPL := hx (parse_any xl m W1 (by have := HXL.out; omega) (HM.out W1 P1.out.k0))
      have HS4 := hx h4
      cases hq : parseL xl with
      | none =>
        rw [hq] at HPL
        have HST := hx (show stepP s xl = .error 320 by unfold stepP; rw [if_neg h4, hq])
        clear hq h4
        dsimp only [resV] at HPL
        gi_wp2_with (first
          | (refine ⟨trivial, ?_⟩; gi_at_call 15; refine (CallsIn.inRound l (callsIn_wide.2 HPL.out)).mono ?_; rintro e w4 ⟨rfl, hk4⟩; have P4 := hx (P1.out.kept hk4); have O4 := hx (O1.out.trans (kept0_others hk4)); clear hk4 c6)
          | (refine store_blkF rfl 28 (.tmp 12) (.tmp 44) rfl w4.heap.size rfl 28 _ (ints (base6 0)) rfl (Blk.new w4 (ints (base6 0)) 28) rfl (infoAct' _ rfl) (ints_one _) ?_; intro w7 hb7 hk7; have O7 := hx (O4.out.trans ((KeepsOthers.alloc w4 _).trans (kept_others hk7 (Blk.new w4 (ints (base6 0)) 28)))); have K7 := ((Kept.refl [] w4).alloc (.cells (ints (base6 0)).toArray 28)).trans hk7 (ds := []) (fun _ h => h) (fun x h => by simp at h; subst h; exact .inr (Nat.le_refl _)); have P7 := hx (P4.out.kept K7); clear hb7 hk7 K7)
          | (refine store_blkF rfl 46 (.tmp 2) (.tmp 48) rfl z rfl 46 _ (scV (.slice none 0 0)) rfl P7.out.p2 rfl (by kernel_rfl) (by decide) ?_; intro w5 hb5 hk5; have HB5 := hx hb5; have HK5 := hx hk5; have c3 := (hk5.blk P7.out.p3 (by simp)).cell (i := 0) rfl; have c4 := (hk5.blk P7.out.p4 (by simp)).cell (i := 0) rfl; have f3 := (hk5.blk P7.out.p3 (by simp)).free 0; have f4 := (hk5.blk P7.out.p4 (by simp)).free 0; clear hb5 hk5))
        have hbad := HA.out.bad HST.out more
        rw [List.length_map, ← HLS.out.1, ← HLS.out.2] at hbad
        exact lp_bad P7.out.k0 HZ.out O7.out P7.out.p3 P7.out.p4 P7.out.p2 HK5.out HB5.out hbad
      | some x =>
        rw [hq] at HPL
        dsimp only [resV] at HPL
        obtain ⟨aa, ac, rfl⟩ := own_sl P1.out.ar
        obtain ⟨q1, q2, q3, q4, q5, q6, rfl⟩ := six (parse_in6 hq).1
        by_cases h40 : 4096 ≤ s.2.length
        · have hil2 : (4096 : Int) ≤ (s.2.length : Int) := by omega
          have HST := hx (show stepP s xl = .error 2 by unfold stepP; rw [if_neg h4, hq]; exact if_pos h40)
          clear hq h4 h40
          gi_wp2_with (first
            | (refine ⟨trivial, ?_⟩; gi_at_call 15; refine (CallsIn.inRound l (callsIn_wide.2 HPL.out)).mono ?_; rintro e w4 ⟨rfl, hk4⟩; have P4 := hx (P1.out.kept hk4); have O4 := hx (O1.out.trans (kept0_others hk4)); have E4 := hx (E1.out.trans (kept0_b hk4 (by have := HZ6.out; omega))); have Z4 := hx (Nat.le_trans HZ6.out hk4.size); clear hk4 c6)
            | (refine store_blkF rfl 28 (.tmp 12) (.tmp 44) rfl w4.heap.size rfl 28 _ (ints [q1, q2, q3, q4, q5, q6]) rfl (Blk.new w4 (ints (base6 0)) 28) rfl (infoAct' _ rfl) (ints_one _) ?_; intro w7 hb7 hk7; have B7 := hx (show Blk w7 w4.heap.size [.int .i64 q1, .int .i64 q2, .int .i64 q3, .int .i64 q4, .int .i64 q5, .int .i64 q6] 28 from hb7); have O7 := hx (O4.out.trans ((KeepsOthers.alloc w4 _).trans (kept_others hk7 (Blk.new w4 (ints (base6 0)) 28)))); have K7 := ((Kept.refl [] w4).alloc (.cells (ints (base6 0)).toArray 28)).trans hk7 (ds := []) (fun _ h => h) (fun x h => by simp at h; subst h; exact .inr (Nat.le_refl _)); have P7 := hx (P4.out.kept K7); have E7 := hx (E4.out.trans (kept0_b K7 (by have := Z4.out; omega))); have Z7 := hx (Nat.le_trans Z4.out K7.size); clear hb7 hk7 K7; have c5 := P7.out.p5.cell (i := 11) rfl)
            | (refine store_blkF rfl 46 (.tmp 2) (.tmp 54) rfl z rfl 46 _ (scV (.slice none 0 0)) rfl P7.out.p2 rfl (by kernel_rfl) (by decide) ?_; intro w5 hb5 hk5; have HB5 := hx hb5; have HK5 := hx hk5; have c3 := (hk5.blk P7.out.p3 (by simp)).cell (i := 0) rfl; have c4 := (hk5.blk P7.out.p4 (by simp)).cell (i := 0) rfl; have f3 := (hk5.blk P7.out.p3 (by simp)).free 0; have f4 := (hk5.blk P7.out.p4 (by simp)).free 0; clear hb5 hk5))
          have hbad := HA.out.bad HST.out more
          rw [List.length_map, ← HLS.out.1, ← HLS.out.2] at hbad
          exact lp_bad P7.out.k0 HZ.out O7.out P7.out.p3 P7.out.p4 P7.out.p2 HK5.out HB5.out hbad
        · have hil2 : ¬ (4096 : Int) ≤ (s.2.length : Int) := by omega
          have HST := hx (show stepP s xl = .ok (s.1, s.2 ++ [[q1, q2, q3, q4, q5, q6]]) by unfold stepP; rw [if_neg h4, hq]; exact if_neg h40)
          have HXS := hx (HX.out.snoc (by omega) hq)
          have H40 := hx h40
          clear hq h4 h40
          gi_wp2_with (first
            | (refine ⟨trivial, ?_⟩; gi_at_call 15; refine (CallsIn.inRound l (callsIn_wide.2 HPL.out)).mono ?_; rintro e w4 ⟨rfl, hk4⟩; have P4 := hx (P1.out.kept hk4); have O4 := hx (O1.out.trans (kept0_others hk4)); have E4 := hx (E1.out.trans (kept0_b hk4 (by have := HZ6.out; omega))); have Z4 := hx (Nat.le_trans HZ6.out hk4.size); clear hk4 c6)
            | (refine store_blkF rfl 28 (.tmp 12) (.tmp 44) rfl w4.heap.size rfl 28 _ (ints [q1, q2, q3, q4, q5, q6]) rfl (Blk.new w4 (ints (base6 0)) 28) rfl (infoAct' _ rfl) (ints_one _) ?_; intro w7 hb7 hk7; have B7 := hx (show Blk w7 w4.heap.size [.int .i64 q1, .int .i64 q2, .int .i64 q3, .int .i64 q4, .int .i64 q5, .int .i64 q6] 28 from hb7); have O7 := hx (O4.out.trans ((KeepsOthers.alloc w4 _).trans (kept_others hk7 (Blk.new w4 (ints (base6 0)) 28)))); have K7 := ((Kept.refl [] w4).alloc (.cells (ints (base6 0)).toArray 28)).trans hk7 (ds := []) (fun _ h => h) (fun x h => by simp at h; subst h; exact .inr (Nat.le_refl _)); have P7 := hx (P4.out.kept K7); have E7 := hx (E4.out.trans (kept0_b K7 (by have := Z4.out; omega))); have Z7 := hx (Nat.le_trans Z4.out K7.size); clear hb7 hk7 K7; have c5 := P7.out.p5.cell (i := 11) rfl)
            | (refine load_blkF rfl 28 (.tmp 12) rfl w4.heap.size rfl 28 _ _ B7.out Tryd.underlying28 rfl (by kernel_rfl) ?_)
            | (gi_at_builtin; refine wpListIn_app rfl (.tmp 57) (.tmp 59) 44 rfl (z + 7) 28 (.agg (ints (base6 0)).toArray) 6 48 infoAc Tryd.underlying44 rfl (by omega) (.slice aa s.2.length ac) s.2.length (actsC s.2) rfl (World.ownsRow.alloc P7.out.ar _) (some ⟨_, 0, none⟩) 1 1 [.int .i64 q1, .int .i64 q2, .int .i64 q3, .int .i64 q4, .int .i64 q5, .int .i64 q6] rfl rfl (by simp) (by omega) (newsB (Blk.new _ [.int .i64 q1, .int .i64 q2, .int .i64 q3, .int .i64 q4, .int .i64 q5, .int .i64 q6] 28)) (ints_one [q1, q2, q3, q4, q5, q6]) (by have := H40.out; simp [maxLen]; omega) (by have := H40.out; omega) (by have := Z7.out; simp; omega) ?_; intro v8 w8 ho8 hg8; obtain ⟨ga, gc, rfl⟩ := own_sl ho8; have HO8 := hx ho8; have HG8 := hx hg8; have d5 := grown_blk hg8 (P7.out.p5.alloc _) (fun e => by have := (own_celled P7.out.ar e.symm).1; omega); clear c5; have c5 := d5.cell (i := 11) rfl; have f5 := d5.free 11; clear d5 ho8 hg8))
          have hka := (Kept.refl [] w7).alloc (.cells (ints [q1, q2, q3, q4, q5, q6]).toArray 28)
          have hoa := World.ownsRow.alloc P7.out.ar (.cells (ints [q1, q2, q3, q4, q5, q6]).toArray 28)
          have E8 := kpB_of (x := z + 3) (i := 11) (u := .slice ga (s.2.length + 1) gc) hka hoa HG8.out (B := z + 6) (by have := Z7.out; omega) (by omega) (by omega)
          refine ⟨O7.out.trans (others_of hka hoa HG8.out), E7.out.trans E8, (s.1, s.2 ++ [[q1, q2, q3, q4, q5, q6]]), _, .slice ga (s.2.length + 1) gc, us, P7.out.act HZ.out hka HG8.out HO8.out, ?_, HH.out, HXS.out, Nat.le_trans Z7.out E8.2⟩
          rw [List.map_append]
          exact HA.out.next HST.out
  case hdone =>
    rintro D xs W hD rfl ⟨s, hv, av, us, hP, hA, hH, hX, hZ7⟩ hK
    rw [numT_snd] at hA
    have hdn := HPO.out.trans hA.done
    have HP := hx hP
    have HH := hx hH
    have HX := hx hX
    have HKD := hx hK
    have HDD := hx hD
    have HZ7 := hx hZ7
    obtain ⟨ha, hc, rfl⟩ := own_sl hP.hr
    have c6 := hP.p6.cell (i := 0) rfl
    have c7 := hP.p7.cell (i := 0) rfl
    have hn9 : (numT 0 (lineS text)).length ≤ 65536 := by rw [numT_len]; have := lineS_len text; have := HL.out; omega
    have HNE := hx (show (numT 0 (lineS text)).length = (lineS text).length from numT_len _ _)
    generalize hn : (numT 0 (lineS text)).length = n at *
    clear hn hA hH hX hP hK hD hZ7
    by_cases h4 : s.1.length < 4
    · have hil : (s.1.length : Int) < 4 := by omega
      rw [if_pos h4] at hdn
      have HDN := hx hdn
      clear hdn h4
      go_upto_region 22 with fail
      have HPD := hx (show PaI w0 z n s (.slice ha s.1.length hc) av us W.drew from HP.out.kept ((Kept.refl [] W).drew))
      refine Code.wp_mono (Q := fun e a' w' => e = .normal ∧ a'.defers = [{ target := .collected D, args := #[] }] ∧ a'.tmps.getD 2 undef = .pointer (some ⟨z, 0, none⟩) ∧ a'.tmps.getD 3 undef = .pointer (some ⟨z + 1, 0, none⟩) ∧ a'.tmps.getD 4 undef = .pointer (some ⟨z + 2, 0, none⟩) ∧ ∃ w5, Blk w5 z (scV (.slice none 0 0)) 46 ∧ Kept [z] W.drew w5 ∧ w' = (w5.setCell ⟨z + 1, 0, none⟩ (.int .i64 ((n : Int) + 1))).setCell ⟨z + 2, 0, none⟩ (.int .i64 320)) ?_ ?_
      · rintro e ⟨t, d⟩ w' ⟨rfl, hd, h2, h3, h4, w5, hb5, hk5, rfl⟩
        dsimp only at hd h2 h3 h4
        subst hd
        have hkd : w5.heap[D]? = some (.deferred (some [])) := by
          have hne : D ≠ z := by have := HDD.out; have := HS2.out; omega
          rw [hk5.block D (Array.getElem?_eq_some_iff.1 HKD.out).1 (by simpa using hne)]
          exact HKD.out
        have HB5 := hx hb5
        have HK5 := hx hk5
        clear hb5 hk5
        go_wp2
        rw [show n = (lineS text).length from HNE.out] at *
        refine end_bad HZ.out (by have := HDD.out; have := HS2.out; omega) HDN.out h2 h3 h4 ((HB5.out.set_ne (by simp) _).set_ne (by simp) _) (((HK5.out.blk HPD.out.p3 (by simp)).set 0 _).set_ne (by simp) _) (((HK5.out.blk HPD.out.p4 (by simp)).set_ne (by simp) _).set 0 _) (((HPD.out.k0.trans HK5.out (ds := []) (fun _ h => h) (fun x h => by simp at h; subst h; exact .inr (by have := HZ.out; omega))).setCell (.inr (by have := HZ.out; simp; omega)) _).setCell (.inr (by have := HZ.out; simp; omega)) _) ?_
        rw [Below.heap_setCell _ _ _ _ (by have := HDD.out; have := HS2.out; simp; omega), Below.heap_setCell _ _ _ _ (by have := HDD.out; have := HS2.out; simp; omega)]
        exact hkd
      · have hwr : IntKind.i64.wrap ((n : Int) + 1) = (n : Int) + 1 := IntWalk.i64_in _ (by omega)
        clear HPO
        refine wp_region_held_drew (S := (fun w3 => w3.cell? ⟨z + 5, 0, none⟩ = some (.int .i64 (n : Int)))) (by kernel_rfl) (by simpa using c7) (fun hHeld => ?_)
        refine take_by 0 65 (v := ?_) rfl rfl (by kernel_rfl) (by kernel_rfl) (by kernel_rfl) (fun _ _ _ h => by cases h.1) (Or.inl ⟨by rfl, ?_⟩) (by assumption) ?_
        rotate_left
        · (intro w hSw; (try dsimp only at hSw); go_simp; try with_reducible rfl)
        try simp only [List.setIfInBounds_toArray, List.set_cons_zero, List.set_cons_succ]
        refine take_by 1 66 (v := ?_) rfl rfl (by kernel_rfl) (by kernel_rfl) (by kernel_rfl) (fun _ _ _ h => by cases h.1) (Or.inl ⟨by rfl, ?_⟩) (by assumption) ?_
        rotate_left
        · (intro w hSw; (try dsimp only at hSw); go_simp; try with_reducible rfl)
        try simp only [List.setIfInBounds_toArray, List.set_cons_zero, List.set_cons_succ]
        refine take_by 2 67 (v := ?_) rfl rfl (by kernel_rfl) (by kernel_rfl) (by kernel_rfl) (fun _ _ _ h => by cases h.1) (Or.inl ⟨by rfl, ?_⟩) (by assumption) ?_
        rotate_left
        · (intro w hSw; (try dsimp only at hSw); go_simp; try with_reducible rfl)
        try simp only [List.setIfInBounds_toArray, List.set_cons_zero, List.set_cons_succ]
        refine wpAnyH_ready (rs := [3]) (by kernel_rfl) (by simp) ?_
        refine AllReadyH.cons rfl (fun K hK => ?_) AllReadyH.nil
        refine store_blkW 46 (.tmp 2) (.tmp 65) rfl z rfl 46 _ (scV (.slice none 0 0)) rfl (HPD.out.p2) rfl (by kernel_rfl) (by decide) ?_
        intro w5 hb5 hk5
        have HB5 := hx hb5
        have HK5 := hx hk5
        have c3 := (hk5.blk HPD.out.p3 (by simp)).cell (i := 0) rfl
        have c4 := (hk5.blk HPD.out.p4 (by simp)).cell (i := 0) rfl
        have f3 := (hk5.blk HPD.out.p3 (by simp)).free 0
        have f4 := (hk5.blk HPD.out.p4 (by simp)).free 0
        have B75 := hx (hk5.blk HPD.out.p7 (by simp))
        have c75 := B75.out.cell (i := 0) rfl
        refine hK.out _ _ (c75) (fun hHeld => ?_)
        clear hK K
        try simp only [Act.put]
        refine wpAnyH_ready (rs := [4]) (by kernel_rfl) (by simp) ?_
        refine AllReadyH.cons rfl (fun K hK => ?_) AllReadyH.nil
        go_simp
        refine hK.out _ _ ((B75.out.set_ne (a := ⟨z + 1, 0, none⟩) (by simp) _).cell (i := 0) rfl) (fun hHeld => ?_)
        clear hK K
        try simp only [Act.put]
        refine wpAnyH_ready (rs := [5]) (by kernel_rfl) (by simp) ?_
        refine AllReadyH.cons rfl (fun K hK => ?_) AllReadyH.nil
        go_simp
        refine hK.out _ _ (((B75.out.set_ne (a := ⟨z + 1, 0, none⟩) (by simp) _).set_ne (a := ⟨z + 2, 0, none⟩) (by simp) _).cell (i := 0) rfl) (fun hHeld => ?_)
        clear hK K
        try simp only [Act.put]
        refine wpAnyH_done (by kernel_rfl) ?_ _
        exact ⟨rfl, rfl, rfl, rfl, rfl, w5, HB5.out, HK5.out, rfl⟩
    · have hil : ¬ (s.1.length : Int) < 4 := by omega
      rw [if_neg h4] at hdn
      have HDN := hx hdn
      have HL4 := hx (show s.1.length = 4 by have := HH.out.1; omega)
      clear hdn h4
      obtain ⟨g, r, cap, hhv, hH, s0, s1, s2⟩ := pa_hd HP.out HH.out HL4.out
      rw [HL4.out] at hhv c6
      simp only [Value.slice.injEq, true_and] at hhv
      obtain ⟨rfl, rfl⟩ := hhv
      have HTD := hx (told_any g hc r _ _ _ _ _ _ _ _ _ _ W hH s0 s1 s2)
      clear hH s0 s1 s2
      have O2 := hx (HP.out.p2)
      go_wp2_with (first
        | (go_at_call 42; refine HTD.out.mono ?_; rintro e w4 ⟨rfl, hk4⟩; have P4 := hx (HP.out.kept hk4); have D4 := hx (show w4.heap[D]? = some (.deferred (some [])) by rw [hk4.block D (Array.getElem?_eq_some_iff.1 HKD.out).1 (by simp)]; exact HKD.out); clear hk4)
        | (refine store_front rfl 43 (.tmp 73) (.tmp 71) rfl (z + 3) rfl 46 (cfL 0 0 0 0 0 0 0 0 0 0 0) [av] (cfOf s.1) rfl P4.out.p5 rfl (by kernel_rfl) (cf_one _ _ _ _ _ _ _ _ _ _ _) ?_; intro w5 hb5 hk5; have B5 := hx hb5; have K5 := hx hk5; clear hb5 hk5)
        | (refine load_blk rfl 46 (.tmp 5) rfl (z + 3) rfl 46 (cfOf s.1 ++ [av]) _ B5.out Tryd.underlying46 rfl (by kernel_rfl) ?_)
        | (refine store_blk rfl 46 (.tmp 2) (.tmp 74) rfl z rfl 46 _ (cfOf s.1 ++ [av]) rfl (K5.out.blk P4.out.p2 (by simp)) rfl (by kernel_rfl) (sc_one P4.out) ?_; intro w6 hb6 hk6; have B6 := hx hb6; have K6 := hx hk6; have c3 := ((hk6.blk (K5.out.blk P4.out.p3 (by simp)) (by simp))).cell (i := 0) rfl; have c4 := ((hk6.blk (K5.out.blk P4.out.p4 (by simp)) (by simp))).cell (i := 0) rfl; have f3 := ((hk6.blk (K5.out.blk P4.out.p3 (by simp)) (by simp))).free 0; have f4 := ((hk6.blk (K5.out.blk P4.out.p4 (by simp)) (by simp))).free 0; clear hb6 hk6))
      have HAC := hx (((K5.out.trans K6.out (ds := [z + 3, z, z + 1, z + 2]) (fun _ h => by simp at h ⊢; simp [h]) (fun x h => by simp at h; subst h; exact .inl (by simp))).setCell (p := ⟨z + 1, 0, none⟩) (.inl (by simp)) (.int .i64 0)).setCell (p := ⟨z + 2, 0, none⟩) (.inl (by simp)) (.int .i64 0))
      refine end_good HZ.out (by have := HDD.out; have := HS2.out; omega) HDN.out HX.out P4.out rfl rfl rfl ((B6.out.set_ne (by simp) _).set_ne (by simp) _) (((K6.out.blk (K5.out.blk P4.out.p3 (by simp)) (by simp)).set 0 _).set_ne (by simp) _) (((K6.out.blk (K5.out.blk P4.out.p4 (by simp)) (by simp)).set_ne (by simp) _).set 0 _) HAC.out ?_
      have hdz := HDD.out
      have hs2 := HS2.out
      rw [Below.heap_setCell _ _ _ _ (by simp; omega), Below.heap_setCell _ _ _ _ (by simp; omega), K6.out.block D (Nat.lt_of_lt_of_le (Array.getElem?_eq_some_iff.1 D4.out).1 K5.out.size) (by simp; omega), K5.out.block D (Array.getElem?_eq_some_iff.1 D4.out).1 (by simp; omega)]
      exact D4.out
  case hstop =>
    rintro D cd pre W hD hsp ⟨rfl, n, e, hpe, b2, b3, b4, hk⟩ hK
    have HE := hx (And.intro (HPO.out.trans hpe) (And.intro b2 (And.intro b3 (And.intro b4 (And.intro hk hK)))))
    have HDD := hx hD
    clear hpe b2 b3 b4 hk hK hD hsp
    refine wpIn_wide.2 ?_
    go_wp2
    exact end_bad HZ.out (by have := HDD.out; have := HS2.out; omega) HE.out.1 rfl rfl rfl HE.out.2.1 HE.out.2.2.1 HE.out.2.2.2.1 HE.out.2.2.2.2.1 HE.out.2.2.2.2.2
end Go.Proofs.YtdfbofkdlgfblaaDoor
