/- nack: Below. -/
import Derived.Test.YteobkcmfpmolmaaNkG
import Derived.Test.YteobkcmfpmolmaaNkV
import Derived.Test.YteobkcmfpmolmaaNkC
import Derived.Test.YteobkcmfpmolmaaTnH
namespace Go.Proofs.Yteobkcmfpmolmaa
open Go Go.RowKit Go.Shelf
attribute [local go_sem] Oper.semAt_some
/-- Is a key behind a number? -/
def isB (k : Int) (x : En) : Bool := decide (behV x.key k < 0)
/-- The keys that are behind. -/
def goneN (k : Int) (s : List En) : List Int := (s.filter (isB k)).map (·.key)
theorem gone_yes (k : Int) (pre : List En) (x : En) (h : behV x.key k < 0) : goneN k (pre ++ [x]) = goneN k pre ++ [x.key] := by
  unfold goneN
  rw [List.filter_append]
  simp [isB, h]
theorem gone_no (k : Int) (pre : List En) (x : En) (h : ¬ behV x.key k < 0) : goneN k (pre ++ [x]) = goneN k pre := by
  unfold goneN
  rw [List.filter_append]
  simp [isB, h]
theorem gone_len (k : Int) (s : List En) : (goneN k s).length ≤ s.length := by
  unfold goneN
  rw [List.length_map]
  exact List.length_filter_le _ _
/-- All stopped, one behind the other. -/
def stopsN (l : List Int) (h : List En) : List En := l.foldl (fun h k => h.filter (notKey k)) h
def stopsF (l : List Int) (f : Int → Int) : Int → Int := l.foldl (fun f k => fun j => if j = k then 0 else f j) f
theorem stopsN_snoc (l : List Int) (k : Int) (h : List En) : stopsN (l ++ [k]) h = (stopsN l h).filter (notKey k) := by simp [stopsN]
theorem stopsF_snoc (l : List Int) (k : Int) (f : Int → Int) : stopsF (l ++ [k]) f = fun j => if j = k then 0 else stopsF l f j := by simp [stopsF]
theorem stopsN_eq (l : List Int) : ∀ h : List En, stopsN l h = h.filter (fun x => decide (x.key ∉ l)) := by
  induction l with
  | nil => intro h; exact (List.filter_eq_self.2 (by simp)).symm
  | cons k l ih =>
    intro h
    show stopsN l (h.filter (notKey k)) = _
    rw [ih, List.filter_filter]
    refine List.filter_congr (fun x _ => ?_)
    simp only [notKey, List.mem_cons, not_or, Bool.decide_and, bne]
    rw [Bool.and_comm]
    congr 1
    by_cases e : x.key = k <;> simp [e]
theorem stopsN_gone {h s : List En} (hp : s.Perm h) (k : Int) : stopsN (goneN k s) h = h.filter (fun x => !isB k x) := by
  rw [stopsN_eq]
  refine List.filter_congr (fun x hx => ?_)
  have e : x.key ∈ goneN k s ↔ isB k x = true := by
    unfold goneN
    rw [List.mem_map]
    constructor
    · rintro ⟨y, hy, e⟩
      have h2 := (List.mem_filter.1 hy).2
      unfold isB at *
      rw [← e]
      exact h2
    · intro hb
      exact ⟨x, List.mem_filter.2 ⟨hp.mem_iff.2 hx, hb⟩, rfl⟩
  cases hb : isB k x
  · rw [hb] at e
    simp [e]
  · rw [hb] at e
    simp [e]
theorem stopsF_other (l : List Int) : ∀ (f : Int → Int) (j : Int), j ∉ l → stopsF l f j = f j := by
  induction l with
  | nil => intro f j _; rfl
  | cons k l ih =>
    intro f j hj
    simp only [List.mem_cons, not_or] at hj
    show stopsF l (fun i => if i = k then 0 else f i) j = f j
    rw [ih _ _ hj.2, if_neg hj.1]
theorem stopsF_in (l : List Int) : ∀ (f : Int → Int), (∀ j, 0 ≤ f j ∧ f j ≤ 5) → ∀ j, 0 ≤ stopsF l f j ∧ stopsF l f j ≤ 5 := by
  induction l with
  | nil => intro f h j; exact h j
  | cons k l ih =>
    intro f h j
    exact ih _ (fun j => by by_cases e : j = k <;> simp [e, h j]) j
theorem stop_filter {h h' : List En} {k : Int} (hk : h.Pairwise (fun x y => x.key ≠ y.key)) (e : (keyAt k h = none ∧ h' = h) ∨ (∃ i, keyAt k h = some i ∧ h' = h.eraseIdx i)) : h' = h.filter (notKey k) := by
  rcases e with ⟨e, rfl⟩ | ⟨i, e, rfl⟩
  · exact (filter_all (keyAt_none e)).symm
  · exact erase_filter e hk
theorem pr_no {b c : Nat} {T U : TypeId} (h1 : b ≠ c) (h2 : T ≠ U) : ¬ (b = c ∨ (T = U ∧ c < b)) := fun h => by
  rcases h with h | h
  · exact h1 h
  · exact h2 h.1
theorem stopsN_len (l : List Int) (h : List En) : (stopsN l h).length ≤ h.length := by
  rw [stopsN_eq]
  exact List.length_filter_le _ _
theorem stopsN_keys (l : List Int) {h : List En} (hk : h.Pairwise (fun x y => x.key ≠ y.key)) : (stopsN l h).Pairwise (fun x y => x.key ≠ y.key) := by
  rw [stopsN_eq]
  exact hk.filter _
/-- What Below leaves. -/
def NBelowP (w : World) (p q mb n : Nat) (v : Value) (room now no asked full k : Int) (h s : List En) (f : Int → Int) (e : Ending) (w' : World) : Prop :=
  e = .returned (.int .i64 (goneN k s).length) ∧ ∃ v', KeptK w w' p q mb v v' ∧ Nk w' p q mb n v' room now no asked full (stopsN (goneN k s) h) (stopsF (goneN k s) f)
theorem infoU : (Try.prog.info? 31).map (fun i => (i.zero, i.size, i.bytes)) = some (some (.int .u32 0), 1, 4) := by kernel_rfl
theorem own_some1 {w : World} {base : Nat} {T : TypeId} {v : Value} {n : Nat} {xs : List Value} (h : w.ownsRow base T 1 v (n + 1) xs) : ∃ g c, v = .slice (some ⟨g, 0, none⟩) (n + 1) c := by
  rcases h with ⟨_, ⟨_, hn⟩ | ⟨g, cap, cur, rfl, _⟩⟩
  · omega
  · exact ⟨g, cap, rfl⟩
theorem news1 (W : World) (x : Value) (T : TypeId) : ∀ j u, [x][j]? = some u → (W.alloc (.cells #[x] T)).cell? ((⟨W.heap.size, 0, none⟩ : Addr).add j) = some u := by
  intro j u hj
  rw [Addr.add_mid, Nat.zero_add]
  exact (Blk.new W [x] T).cell hj
variable {w w' : World} {p q mb n : Nat} {v v' : Value} {room now now' no no' asked full : Int} {h h' s : List En} {f f' : Int → Int}
theorem nk_put {D : Nat} {o o' : Obj} (s : Nk w p q mb n v room now no asked full h f) (hD : w.heap[D]? = some o) (hc : o.isCells = false) (hne : mb ≠ D) : Nk (w.putObj D o') p q mb n v room now no asked full h f :=
  have hk := keptN_put (B := D) w D o o' (Nat.le_refl _) hD hc
  ⟨hk.blk s.hp, ⟨hk.blk s.ts.hq, hk.own s.ts.own, s.ts.ne⟩, s.mp.at (World.putObj_heap_other hne), s.pq, s.pm, s.qm, s.vp, s.vm⟩
set_option maxRecDepth 100000 in
set_option maxHeartbeats 12000000 in
theorem nbelow_any (k : Int) (w : World) (hs : Nk w p q mb n v room now no asked full h f) (hp : Tp h s now no) (hl : h.length ≤ 1000) (hw : ∀ x, x ∈ s → (Lit.int .u32 x.key).wf = true) (hk : (Lit.int .u32 k).wf = true) :
    Calls Try.prog 18 #[.pointer (some ⟨p, 0, none⟩), .int .u32 k] w (NBelowP w p q mb n v room now no asked full k h s f) := by
  have HS := hx hs
  have HP := hx hp
  have HL := hx hl
  have HW := hx hw
  have HKU := hx (u32_in hk)
  have HSL := hx hp.len
  have HBH := hx (fun (x : En) (hx : x ∈ s) (w : World) => beh_any x.key k w (u32_in (hw x hx)) (u32_in hk))
  generalize hPP : NBelowP w p q mb n v room now no asked full k h s f = PP at *
  have HPP := hx hPP
  have HLP := hx (show p < w.heap.size ∧ q < w.heap.size ∧ mb < w.heap.size from ⟨hs.hp.lt, hs.ts.hq.lt, hs.mp.lt⟩)
  clear hs hp hl hw hk hPP
  refine (callsIn_wide (n := 6)).1 ?_
  refine callsIn_of_wp_marks Try.func18 rfl trivial ?_ rfl
  simp only [Try.ntmps18, List.size_toArray, List.length_cons, List.length_nil, Nat.reduceAdd, Nat.reduceSub, Array.replicate_succ, Array.replicate_zero, List.push_toArray, List.append_toArray, List.nil_append, List.cons_append]
  refine wpIn_wide.2 ?_
  go_upto_region 2 with fail
  have B3 := hx ((Blk.new w [.int .u32 k] 31).alloc (.cells #[.slice none 0 0] 37))
  have B5 := hx (show Blk ((w.alloc (.cells #[.int .u32 k] 31)).alloc (.cells #[.slice none 0 0] 37)) (w.heap.size + 1) [.slice none 0 0] 37 by
    have h := Blk.new (w.alloc (.cells #[.int .u32 k] 31)) [.slice none 0 0] 37
    rw [World.size_alloc] at h
    exact h)
  have K0 := hx (((Kept.refl [] w).alloc (.cells #[.int .u32 k] 31)).alloc (.cells #[.slice none 0 0] 37))
  generalize (w.alloc (.cells #[.int .u32 k] 31)).alloc (.cells #[.slice none 0 0] 37) = W0 at *
  have c0 := (HS.out.kept K0.out).hp.cell (i := 0) rfl
  go_wp2_with fail
  refine (tall_any q W0).mono ?_
  rintro e w5 ⟨rfl, rfl⟩
  have BT := hx (Blk.new W0 [.pointer (some ⟨q, 0, none⟩)] 58)
  have B31 := hx (B3.out.alloc (.cells #[.pointer (some ⟨q, 0, none⟩)] 58))
  have B51 := hx (B5.out.alloc (.cells #[.pointer (some ⟨q, 0, none⟩)] 58))
  have K1 := hx (K0.out.alloc (.cells #[.pointer (some ⟨q, 0, none⟩)] 58))
  have HB5L := hx B5.out.lt
  clear c0 B3 B5 K0
  generalize W0.heap.size = bt at *
  generalize W0.alloc (.cells #[.pointer (some ⟨q, 0, none⟩)] 58) = W1 at *
  have HST := hx (tall_stopz 5 bt q v room now no h s (fun b T => b = w.heap.size + 1 ∨ (T = 31 ∧ w.heap.size + 1 < b)) W1 BT.out (HS.out.kept K1.out).ts HP.out (pr_no (by have := HB5L.out; omega) (by decide)) (pr_no (by have := HLP.out.2.1; omega) (by decide)) (fun b hb => pr_no (by have := B51.out.lt; omega) (by decide)) (by have := HL.out; omega) (by omega))
  have HLT := hx (show w.heap.size < W1.heap.size ∧ w.heap.size + 1 < W1.heap.size ∧ w.heap.size ≤ W1.heap.size from ⟨B31.out.lt, B51.out.lt, K1.out.size⟩)
  go_wp2_with fail
  refine (wpIn_wide (n := 6)).1 ?_
  apply rangeZ (F := Fence.wide) (n := 6) (gf := 41) (lb := #[.pointer (some ⟨bt, 0, none⟩)]) (encs := encL now) (Kp := KpP (fun b T => b = w.heap.size + 1 ∨ (T = 31 ∧ w.heap.size + 1 < b))) (S := fun xs => xs = s) (Sp := fun pre => pre <+: s) (N := s.length) rfl (by omega) rfl trivial (enters_of Try.func41 (by kernel_rfl) rfl) HST.out kpp_t (fun W o o' h hc => kpp_b W _ o o' h hc) (fun _ => rfl)
    (fun pre W => ∃ u, Blk W w.heap.size [.int .u32 k] 31 ∧ Blk W (w.heap.size + 1) [u] 37 ∧ W.ownsRow (w.heap.size + 1 + 1) 31 1 u (goneN k pre).length (ik1 (goneN k pre)) ∧ Kept [] w W ∧ (pre = [] → u = .slice none 0 0))
    (fun _ _ _ => False)
    ⟨fun A C ⟨u, h1, h2, h3, h4, h5⟩ hb => ⟨u, h1.below hb HLT.out.1, h2.below hb HLT.out.2.1, by rw [h5 rfl]; exact World.ownsRow_nil _ _ _ 1, h4.below hb HLT.out.2.2, h5⟩, fun pre A C ⟨u, h1, h2, h3, h4, h5⟩ hb => ⟨u, hb.blk h1, hb.blk h2, hb.own h3, hb.kept h4 HLT.out.2.2, h5⟩⟩
    (fun _ _ _ _ h _ => h)
    ⟨_, B31.out, B51.out, World.ownsRow_nil _ _ _ 1, K1.out, fun _ => rfl⟩
  case hassign =>
    intro l x W K hK
    gi_wp2
    exact hK
  case hbody =>
    rintro l pre x W ⟨u, h1, h2, h3, h4, h5⟩ hlen hsp
    have hxs : x ∈ s := hsp.subset (by simp)
    have HBX := hx (HBH.out x hxs)
    have c3 := h1.cell (i := 0) rfl
    have c5 := h2.cell (i := 0) rfl
    have f5 := h2.free
    obtain ⟨a, c, rfl⟩ := own_slice h3
    have HB3 := hx h1
    have HB5 := hx h2
    have HO := hx h3
    have HK := hx h4
    have HLN := hx (show (goneN k pre).length ≤ 1000 by have h1 := gone_len k pre; have h2 := HSL.out; have h3 := HL.out; omega)
    have HG1 := hx (gone_yes k pre x)
    have HG2 := hx (gone_no k pre x)
    clear h1 h2 h3 h4 h5 hlen hsp hxs
    generalize hG : goneN k pre = G at *
    clear hG
    generalize behV x.key k = bv at *
    generalize hxk : x.key = xk at *
    by_cases hb : bv < 0
    · have hbd := decide_eq_true hb
      have HG := hx (HG1.out hb)
      clear HG1 HG2 hb
      obtain ⟨i0, hi0, hz0, hz1, hz2⟩ := info_parts infoU
      have HI := hx (And.intro hi0 (And.intro hz0 (And.intro hz1 hz2)))
      clear hi0 hz0 hz1 hz2
      gi_wp2_with (first | (refine ⟨trivial, ?_⟩; gi_at_call 33; refine (CallsIn.inRound l (callsIn_wide.2 (HBX.out _))).mono ?_; rintro e w4 ⟨rfl, rfl⟩) | (gi_at_builtin; (refine wpListIn_append_own_at _ rfl (.tmp 20) (.tmp 22) 37 rfl (w.heap.size + 1 + 1) 31 i0 (.int .u32 0) 1 4 Try.underlying37 HI.out.1 HI.out.2.1 HI.out.2.2.1 HI.out.2.2.2 rfl (by omega) (.slice a G.length c) G.length (ik1 G) rfl (World.ownsRow.alloc HO.out _) ⟨_, 0, none⟩ 1 1 [.int .u32 xk] rfl rfl (news1 W _ _) (by intro v hv; simp at hv; subst hv; rfl) (by have := HLN.out; unfold maxLen; omega) (by have := HLN.out; omega) (by have := HB5.out.lt; simp; omega) ?_; intro v2 w5 o5 g5 n5 at5; obtain ⟨gb, cb, ev⟩ := own_some1 (base := w.heap.size + 1 + 1) o5; subst ev; have HB55 := hx (grown_blk g5 (HB5.out.alloc _) (fun e => by have := (HO.out.lt _ e.symm).1; omega)); have HB35 := hx (grown_blk g5 (HB3.out.alloc _) (fun e => by have := (HO.out.lt _ e.symm).1; omega)); have d0 := HB55.out.cell (i := 0) rfl; have df := HB55.out.free)))
      have HE := app_end HK.out HB5.out (by omega) HO.out g5 o5
      refine ⟨HE.1.from _, HE.2.1, _, ?_, HE.2.2.1, ?_, HE.2.2.2.2, by simp⟩
      · exact HB35.out.set_ne (a := ⟨w.heap.size + 1, 0, none⟩) (by simp) _
      · rw [HG.out, ik1_snoc, List.length_append]
        exact HE.2.2.2.1
    · have hbd := decide_eq_false hb
      have HG := hx (HG2.out hb)
      clear HG1 HG2 hb
      gi_wp2_with (refine ⟨trivial, ?_⟩; gi_at_call 33; refine (CallsIn.inRound l (callsIn_wide.2 (HBX.out _))).mono ?_; rintro e w4 ⟨rfl, rfl⟩)
      exact ⟨KeepsFrom.refl _ _, KpP.of (Kept.refl [] W) (by simp), _, HB3.out, HB5.out, by rw [HG.out]; exact HO.out, HK.out, by simp⟩
  case hdone =>
    rintro D xs W hD rfl ⟨u, h3, h5, ho, hk, _⟩ hK
    obtain ⟨hgl, a, c, rfl, _, hik, hgb⟩ := ik_form ho
    have c5 := h5.cell (i := 0) rfl
    have HKD := hx hK
    have HDD := hx hD
    have HDL := hx (Array.getElem?_eq_some_iff.1 hK).1
    have HK := hx hk
    have HNK := hx (HS.out.kept hk)
    have HOB := hx (show ∀ g, v.ownBlock = some g → g < w.heap.size from fun g hg => (HS.out.ts.own.lt g hg).2)
    have HGW := hx (show ∀ i, i < (goneN k xs).length → (Lit.int .u32 ((goneN k xs).getD i 0)).wf = true from fun i hi => by
      rw [← List.getElem_eq_getD (h := hi)]
      have hm := List.getElem_mem hi
      unfold goneN at hm
      rw [List.mem_map] at hm
      obtain ⟨y, hy, e⟩ := hm
      unfold goneN
      rw [← e]
      exact HW.out y (List.mem_filter.1 hy).1)
    have HGL := hx (show (goneN k xs).length ≤ 1000 by have h1 := gone_len k xs; have h2 := HSL.out; have h3 := HL.out; omega)
    have HHK := hx HP.out.hkeys
    have HNI := hx (show ∀ b, w.heap.size ≤ b → b ∉ (p :: q :: mb :: v.ownBlock.toList) from fun b hb hm => by
      simp only [List.mem_cons, Option.mem_toList] at hm
      rcases hm with rfl | rfl | rfl | hm
      · have := HLP.out.1; omega
      · have := HLP.out.2.1; omega
      · have := HLP.out.2.2; omega
      · have := HOB.out b hm; omega)
    have HB5 := hx h5
    have HIK := hx (show ∀ wr vv, KeptK W wr p q mb v vv → Ik wr a (goneN k xs) from fun wr vv hkk => hik.frame hkk.1 (fun g off ha => HNI.out g (by have := hgb g off ha; omega)))
    clear h3 h5 ho hk hK hD hgl hik hgb
    generalize hG : goneN k xs = G at *
    have HG := hx hG
    clear hG
    go_upto_region 7 with fail
    clear c5
    go_loopw [26] (fun iv wr => ∃ (i : Nat) (vv : Value), i ≤ G.length ∧ iv = .int .i64 i ∧ KeptK W wr p q mb v vv ∧ Nk wr p q mb n vv room now no asked full (stopsN (G.take i) h) (stopsF (G.take i) f)) (fun iv _ => G.length - (intOf iv).toNat)
    case atStart => exact ⟨0, v, Nat.zero_le _, rfl, KeptK.of (Kept.refl [] _) (by simp), HNK.out⟩
    case round =>
      obtain ⟨i, vv, hi, rfl, hkk, hnk⟩ := hrel
      have HKK := hx hkk
      have HN2 := hx hnk
      clear hkk hnk
      have hgl : G.length ≤ 1000 := HGL.out
      by_cases hlt : i < G.length
      · have hli : (i : Int) < (G.length : Int) := by omega
        obtain ⟨g, off, rfl, e1⟩ := (HIK.out _ _ HKK.out) i hlt
        have HST2 := hx (nstop_any (G.getD i 0) wr HN2.out (by have h1 := stopsN_len (G.take i) h; have h2 := HL.out; omega) (HGW.out i hlt))
        have HT := hx (show G.take (i + 1) = G.take i ++ [G.getD i 0] by rw [List.take_add_one, List.getElem?_eq_getElem hlt, ← List.getElem_eq_getD (h := hlt)]; rfl)
        generalize G.getD i 0 = gk at *
        go_wp2_with (go_at_call 13; refine HST2.out.mono ?_; rintro e w6 ⟨rfl, v6, h6, hk6, hn6, ho6⟩; have HK6 := hx hk6; have HN6 := hx hn6; have HO6 := hx ho6; clear hk6 hn6 ho6)
        go_roundw
        case rel =>
          refine ⟨i + 1, v6, by omega, by go_num, HKK.out.trans HK6.out, ?_⟩
          rw [HT.out, stopsN_snoc, stopsF_snoc, ← stop_filter (stopsN_keys _ HHK.out) HO6.out]
          exact HN6.out
        case measure => simp [intOf] <;> omega
      · obtain rfl : i = G.length := by omega
        have c5 := (HKK.out.1.blk HB5.out (HNI.out _ (by omega))).cell (i := 0) rfl
        have HD2 := hx (show wr.heap[D]? = some (.deferred (some [])) by rw [HKK.out.1.block D HDL.out (HNI.out D (by have := HDD.out; have := HLT.out.2.2; omega))]; exact HKD.out)
        go_wp2
        refine ⟨by simp, .inl ⟨_, _, rfl, run_takeDeferred HD2.out, ?_⟩⟩
        have hk1 : KeptK w wr p q mb v vv := (KeptK.of HK.out (by simp)).trans HKK.out
        have hDw : w.heap.size ≤ D := by have := HDD.out; have := HLT.out.2.2; omega
        have hn1 := HN2.out
        rw [List.take_length] at hn1
        refine ⟨_, results_tmp rfl _ _ _, ?_⟩
        rw [← HPP.out, NBelowP, HG.out]
        exact ⟨rfl, vv, ⟨hk1.1.grown (grownBy_putObj' wr D _) (fun k e => by cases e; exact .inr hDw), hk1.2⟩, nk_put hn1 HD2.out rfl (by have := HLP.out.2.2; omega)⟩
  case hstop =>
    rintro D cd pre W _ hp hF _
    exact hF.elim
end Go.Proofs.Yteobkcmfpmolmaa
