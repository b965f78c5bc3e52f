/- What is decoded. Which shards are chosen; the clone of shards. -/
import Derived.Test.YtjgnngnknhkpmaaRsV
import Derived.Test.YtjgnngnknhkpmaaSrt
namespace Go.Proofs.Ytjgnngnknhkpmaa
open Go Go.RowKit
theorem row_ext {n : Nat} {p q : List Nat} (hp : p.length = n) (hq : q.length = n) (op : Oct p) (oq : Oct q) (h : ∀ j, j < n → toF (p.getD j 0) = toF (q.getD j 0)) : p = q := by
  apply List.ext_getElem?
  intro i
  by_cases hi : i < n
  · rw [getD_some 0 (by omega), getD_some 0 (by omega), toF_inj (op.at i) (oq.at i) (h i hi)]
  · rw [List.getElem?_eq_none (by omega), List.getElem?_eq_none (by omega)]
theorem mt_ext {k n : Nat} {a b : List (List Nat)} (ha : Mt k n a) (hb : Mt k n b) (h : ∀ i, i < k → rw a i = rw b i) : a = b := by
  have h1 := ha.rows
  have h2 := hb.rows
  apply List.ext_getElem?
  intro i
  by_cases hi : i < k
  · have h3 := h i hi
    unfold rw at h3
    rw [getD_some [] (by omega), getD_some [] (by omega), h3]
  · rw [List.getElem?_eq_none (by omega), List.getElem?_eq_none (by omega)]
theorem wts_oct (l : List Nat) (x : Nat) : Oct (wts l x) := fun y hy => by
  obtain ⟨i, hi, rfl⟩ := List.getElem_of_mem hy
  have h1 : i < l.length := by rw [wts, tab_len] at hi; exact hi
  have h2 := wts_at (x := x) h1
  rw [List.getD_eq_getElem?_getD, List.getElem?_eq_getElem hi] at h2
  simp only [Option.getD_some] at h2
  rw [h2]
  exact wgt_lt _ _ _
theorem wts_row {k n : Nat} {l : List Nat} (hl : l.length = k) (hn : l.Nodup) (hb : Oct l) {sh : List (List Nat)} (hs : Mt k n sh) {x : Nat} (hx1 : x < 256) {v : Nat → Nat → F} (hv : ∀ j, j < n → ∀ q, q < k → ent sh q j = pv k (v j) (toF (l.getD q 0))) :
    ∀ j, j < n → toF ((mulRow n sh (wts l x) k).getD j 0) = pv k (v j) (toF x) := fun j hj => by
  rw [mulRow_ent hs (wts_oct l x) hj k (Nat.le_refl _)]
  have h1 := lagr (plc l) (plc_nodup hn hb) (v j) (toF x)
  rw [plc_len, hl] at h1
  rw [h1]
  refine sm_congr fun q hq => ?_
  rw [wts_at (by omega), wgt_wt l hb hn q x (by omega) hx1, hv j hj q hq, plc_at l (by omega)]
/-- Of any k shards: the places' polynomials. -/
theorem dec_rows {k m n : Nat} {R : List (List Nat)} (h : Rows k m R) (hkm : k + m ≤ 255) {l : List Nat} (hl : l.length = k) (hn : l.Nodup) (hb : ∀ x ∈ l, x < k + m) {sh : List (List Nat)} (hs : Mt k n sh) :
    ∃ I, invM k (pickM R l) = some I ∧ Mt k k I ∧ Mt k n (mulM n I sh) ∧ (∀ i, i < k → rw (mulM n I sh) i = mulRow n sh (wts l i) k) ∧
      (∀ x, x < k + m → rw (mulM n R (mulM n I sh)) x = mulRow n sh (wts l x) k) ∧
      ∀ d, Mt k n d → (∀ q, q < k → rw sh q = rw (mulM n R d) (l.getD q 0)) → mulM n I sh = d := by
  obtain ⟨I, hI, mI, hd⟩ := h.dec hkm hl hn hb
  have ob : Oct l := fun x hx1 => by have := hb x hx1; omega
  have hD : Mt k n (mulM n I sh) := mulM_mt mI.rows hs
  have hM : Mt (k + m) n (mulM n R (mulM n I sh)) := mulM_mt h.mt.rows hD
  have hmr := fun x => mulRow_ok hs (wts l x) k (Nat.le_refl _)
  have hv : ∀ j, ∃ v : Nat → F, _ := fun j => hd fun q => ent sh q j
  let v : Nat → Nat → F := fun j => (hv j).choose
  have g1 : ∀ j, j < n → ∀ q, q < k → ent sh q j = pv k (v j) (toF (l.getD q 0)) := fun j _ => (hv j).choose_spec.1
  have g2 : ∀ j i, i < k → dt k (ent I i) (fun q => ent sh q j) = pv k (v j) (toF i) := fun j => (hv j).choose_spec.2.1
  have g3 : ∀ j x, x < k + m → dt k (ent R x) (fun i => dt k (ent I i) fun q => ent sh q j) = pv k (v j) (toF x) := fun j => (hv j).choose_spec.2.2
  refine ⟨I, hI, mI, hD, fun i hi => ?_, fun x hx1 => ?_, fun d md hq => ?_⟩
  · refine row_ext (hD.len hi) (hmr i).1 (hD.rowOct hi) (hmr i).2 fun j hj => ?_
    rw [wts_row hl hn ob hs (by omega) g1 j hj, ← g2 j i hi]
    exact mul_ent mI hs hi hj
  · refine row_ext (hM.len hx1) (hmr x).1 (hM.rowOct hx1) (hmr x).2 fun j hj => ?_
    rw [wts_row hl hn ob hs (by omega) g1 j hj, ← g3 j x hx1]
    refine (mul_ent h.mt hD hx1 hj).trans ?_
    exact dt_congr (fun _ _ => rfl) fun q hq1 => mul_ent mI hs hq1 hj
  · refine mt_ext hD md fun i hi => row_ext (hD.len hi) (md.len hi) (hD.rowOct hi) (md.rowOct hi) fun j hj => ?_
    obtain ⟨v2, h1, h2⟩ := h.go fun p => ent d p j
    have e1 := vand_inj (plc l) (plc_nodup hn ob) (v j) v2
    rw [plc_len, hl] at e1
    have e2 := e1 fun q hq1 => by
      rw [plc_at l (by omega), ← g1 j hj q hq1, ← h2 _ (hb _ (List.mem_of_getElem? (getD_some 0 (by omega))))]
      refine Eq.trans ?_ (mul_ent h.mt md (hb _ (List.mem_of_getElem? (getD_some 0 (by omega)))) hj)
      unfold ent
      rw [hq q hq1]
    refine (mul_ent mI hs hi hj).trans ?_
    rw [g2 j i hi]
    refine Eq.trans ?_ (h1 i hi).symm
    exact dt_congr (fun _ _ => rfl) fun q hq1 => e2 q hq1
/-- The data are in front. -/
theorem front_row {k m n : Nat} {R d : List (List Nat)} (h : Rows k m R) (md : Mt k n d) {x : Nat} (hx1 : x < k) : rw (mulM n R d) x = rw d x := by
  have hM : Mt (k + m) n (mulM n R d) := mulM_mt h.mt.rows md
  refine row_ext (hM.len (by omega)) (md.len hx1) (hM.rowOct (by omega)) (md.rowOct hx1) fun j hj => ?_
  exact (mul_ent h.mt md (by omega) hj).trans (h.front (fun q => ent d q j) hx1)
end Go.Proofs.Ytjgnngnknhkpmaa
namespace Go.Proofs.Ytjgnngnknhkpmaa
open Go Go.RowKit Go.Shelf
def Asc (S : List Sd) : Prop := S.Pairwise fun a b : Sd => a.x < b.x
theorem asc_split {S : List Sd} (hs : Asc S) (n : Int) : (S.filter fun s => decide (s.x < n + 1)) = (S.filter fun s => decide (s.x < n)) ++ S.filter fun s => decide (s.x = n) := by
  induction S with
  | nil => rfl
  | cons a S ih =>
    obtain ⟨h1, h2⟩ := List.pairwise_cons.1 hs
    have ih := ih h2
    by_cases g : a.x < n
    · have g1 : a.x < n + 1 := by omega
      have g2 : ¬ a.x = n := by omega
      rw [List.filter_cons_of_pos (by simpa using g1), List.filter_cons_of_pos (by simpa using g), List.filter_cons_of_neg (by simpa using g2), ih]
      rfl
    · have e1 : (S.filter fun s => decide (s.x < n)) = [] := List.filter_eq_nil_iff.2 fun s hs => by have := h1 s hs; simp; omega
      have e2 : (S.filter fun s => decide (s.x = n)) = [] := List.filter_eq_nil_iff.2 fun s hs => by have := h1 s hs; simp; omega
      rw [e1, e2] at ih
      by_cases g2 : a.x = n
      · have g1 : a.x < n + 1 := by omega
        rw [List.filter_cons_of_pos (by simpa using g1), List.filter_cons_of_neg (by simpa using g), List.filter_cons_of_pos (by simpa using g2), ih, e1, e2]
        rfl
      · have g1 : ¬ a.x < n + 1 := by omega
        rw [List.filter_cons_of_neg (by simpa using g1), List.filter_cons_of_neg (by simpa using g), List.filter_cons_of_neg (by simpa using g2), ih, e1, e2]
theorem asc_cut {S : List Sd} (hs : Asc S) (n : Int) : (S.filter fun s => decide (s.x < n)) ++ (S.filter fun s => decide (¬ s.x < n)) = S := by
  induction S with
  | nil => rfl
  | cons a S ih =>
    obtain ⟨h1, h2⟩ := List.pairwise_cons.1 hs
    by_cases g : a.x < n
    · rw [List.filter_cons_of_pos (by simpa using g), List.filter_cons_of_neg (by simpa using g), List.cons_append, ih h2]
    · have e1 : (S.filter fun s => decide (s.x < n)) = [] := List.filter_eq_nil_iff.2 fun s hs => by have := h1 s hs; simp; omega
      have e2 := ih h2
      rw [e1, List.nil_append] at e2
      rw [List.filter_cons_of_neg (by simpa using g), List.filter_cons_of_pos (by simpa using g), e1, e2]
      rfl
theorem asc_one {S : List Sd} (hs : Asc S) (n : Int) : (S.filter fun s => decide (s.x = n)).length ≤ 1 := by
  have h := List.Pairwise.filter (fun s : Sd => decide (s.x = n)) hs
  have hm : ∀ s ∈ S.filter (fun s => decide (s.x = n)), s.x = n := fun s hs => by
    rw [List.mem_filter] at hs
    simpa using hs.2
  generalize S.filter (fun s => decide (s.x = n)) = B at *
  match B, h, hm with
  | [], _, _ => simp
  | [_], _, _ => simp
  | a :: b :: _, h, hm =>
    have h1 := (List.pairwise_cons.1 h).1 b (by simp)
    have h2 := hm a (by simp)
    have h3 := hm b (by simp)
    omega
theorem perm_one {A B : List Sd} (h : A.Perm B) (hl : A.length ≤ 1) : A = B := by
  match A, hl, h with
  | [], _, h => exact (List.nil_perm.1 h).symm
  | [a], _, h => exact (List.singleton_perm.1 h)
theorem lea_filter {L S : List Sd} (hp : S.Perm L) (hs : Asc S) (h0 : ∀ s ∈ L, 0 ≤ s.x) : ∀ n, lea L n = S.filter fun s => decide (s.x < (n : Int))
  | 0 => (List.filter_eq_nil_iff.2 fun s hs => by have := h0 s (hp.mem_iff.1 hs); simp; omega).symm
  | n + 1 => by
    have e : ((n + 1 : Nat) : Int) = (n : Int) + 1 := by omega
    rw [lea, lea_filter hp hs h0 n, e, asc_split hs, fl, List.take_length]
    congr 1
    exact (perm_one (hp.filter fun s => decide (s.x = (n : Int))) (asc_one hs _)).symm
theorem lea_take {L S : List Sd} (hp : S.Perm L) (hs : Asc S) (h0 : ∀ s ∈ L, 0 ≤ s.x) {n k : Nat} (hk : (lea L n).length = k) : lea L n = S.take k := by
  have h1 := asc_cut hs (n : Int)
  rw [← lea_filter hp hs h0 n] at h1
  rw [← h1, ← hk, List.take_left']
  rfl
/-- Those that are chosen. -/
structure Chs (N k n : Nat) (L A : List Sd) : Prop where
  len : A.length = k
  nd : (pls A).Nodup
  lt : ∀ x ∈ pls A, x < N
  mt : Mt k n (bys A)
theorem byn_bys (L : List Sd) : byn L L.length = bys L := by
  apply List.ext_getElem
  · simp [byn, bys]
  · intro i h1 h2
    have hi : i < L.length := by simpa [bys] using h2
    simp [byn, bys, sd_get hi]
theorem bys_rw {L : List Sd} {i : Nat} (hi : i < L.length) : rw (bys L) i = (sd L i).l := by
  rw [rw_get (by rw [bys_len]; exact hi), sd_get hi]
  simp [bys]
theorem eql_len {L : List Sd} (hE : EqL (byn L L.length)) : ∀ s ∈ L, s.l.length = (rw (byn L L.length) 0).length := fun s hs => by
  obtain ⟨i, hi, rfl⟩ := List.getElem_of_mem hs
  have h := hE.2 i (by rw [byn_len]; exact hi)
  rw [byn_bys] at h ⊢
  rw [← h, bys_rw hi, sd_get hi]
theorem chs_of {N k n : Nat} {L S : List Sd} (hp : S.Perm L) (hs : Asc S) (hg : ∀ s ∈ L, 0 ≤ s.x ∧ s.x < (N : Int)) (hk : k ≤ L.length) (hl : ∀ s ∈ L, s.l.length = n) (ho : ∀ s ∈ L, Oct s.l) : Chs N k n L (S.take k) := by
  have hm : ∀ s ∈ S.take k, s ∈ L := fun s h => hp.mem_iff.1 (List.mem_of_mem_take h)
  have ha : Asc (S.take k) := List.Pairwise.sublist (List.take_sublist k S) hs
  have h1 : (S.take k).length = k := by rw [List.length_take, hp.length_eq]; omega
  refine ⟨h1, ?_, fun x hx1 => ?_, ?_, fun x hx1 => ?_, fun x hx1 => ?_⟩
  · rw [pls, List.Nodup, List.pairwise_map]
    have h2 := ha.imp_of_mem (S := fun a b : Sd => a.x.toNat ≠ b.x.toNat) (fun {a b} h3 h4 h5 => by
      have h6 := (hg a (hm a h3)).1
      have h7 := (hg b (hm b h4)).1
      omega)
    exact h2
  · simp only [pls, List.mem_map] at hx1
    obtain ⟨s, h2, rfl⟩ := hx1
    have := hg s (hm s h2)
    omega
  · rw [bys_len, h1]
  · simp only [bys, List.mem_map] at hx1
    obtain ⟨s, h2, rfl⟩ := hx1
    exact hl s (hm s h2)
  · simp only [bys, List.mem_map] at hx1
    obtain ⟨s, h2, rfl⟩ := hx1
    exact ho s (hm s h2)
/-- What is decoded of A. -/
def decR (k : Nat) (n : Nat) (A : List Sd) (i : Nat) : List (List Nat) := tab i fun q => mulRow n (bys A) (wts (pls A) q) k
theorem infoSh : (Try.prog.info? 47).map (fun i => (i.zero, i.size, i.bytes)) = some (some (.agg #[.int .i64 0, .slice none 0 0]), 2, 32) := by kernel_rfl
def cels (L : List Sd) : List Value := tab (L.length * 2) fun j => if j % 2 = 0 then .int .i64 (sd L (j / 2)).x else .slice (sd L (j / 2)).a (sd L (j / 2)).l.length (sd L (j / 2)).c
theorem cels_0 {L : List Sd} {i : Nat} (hi : i < L.length) : (cels L)[i * 2]? = some (.int .i64 (sd L i).x) := by
  rw [cels, tab_get (by omega), if_pos (by omega), Nat.mul_div_cancel i (by omega)]
theorem cels_1 {L : List Sd} {i : Nat} (hi : i < L.length) : (cels L)[i * 2 + 1]? = some (.slice (sd L i).a (sd L i).l.length (sd L i).c) := by
  rw [cels, tab_get (by omega), if_neg (by omega), show (i * 2 + 1) / 2 = i by omega]
theorem clone_sh (a2 : Option Addr) (c : Nat) (L : List Sd) (w : World) (hS : Sh w a2 L) (h1 : 1 ≤ L.length) (hL : L.length ≤ 1000) :
    Calls Try.prog 38 #[.slice a2 L.length c] w fun e w' => ∃ g cap, e = .returned (.slice (some ⟨g, 0, none⟩) L.length cap) ∧ w.heap.size ≤ g ∧ g < w'.heap.size ∧ L.length ≤ cap ∧
      (∀ i, i < L.length → (w'.cell? ⟨g, i * 2, none⟩ = some (.int .i64 (sd L i).x) ∧ w'.frozen? ⟨g, i * 2, none⟩ = false) ∧ w'.cell? ⟨g, i * 2 + 1, none⟩ = some (.slice (sd L i).a (sd L i).l.length (sd L i).c) ∧ w'.frozen? ⟨g, i * 2 + 1, none⟩ = false) ∧ Kept [] w w' := by
  obtain ⟨i0, hi, hz0, hz1, hz2⟩ := info_parts infoSh
  obtain ⟨b, off, rfl, _⟩ := hS 0 (by omega)
  have hcon := AnyE.slices_Clone Try.cloneSh i0 (.agg #[.int .i64 0, .slice none 0 0]) 2 32 hi hz0 hz1 hz2 rfl (by omega) Try.sizeOf47 b off L.length c (cels L) w (tab_len _ _) (by unfold maxLen; omega) (by omega) (fun j u hu => by
      have hj : j < L.length * 2 := by
        have h := (List.getElem?_eq_some_iff.1 hu).1
        rw [cels, tab_len] at h
        exact h
      obtain ⟨b2, o2, e1, e2, e3, _⟩ := hS (j / 2) (by omega)
      simp only [Option.some.injEq, Addr.mk.injEq, and_true] at e1
      obtain ⟨rfl, rfl⟩ := e1
      rcases Nat.mod_two_eq_zero_or_one j with e | e
      · have q := cels_0 (L := L) (i := j / 2) (by omega)
        rw [show j / 2 * 2 = j by omega] at q e2
        rw [hu] at q
        rw [q]
        exact e2
      · have q := cels_1 (L := L) (i := j / 2) (by omega)
        rw [show j / 2 * 2 + 1 = j by omega] at q
        rw [show off + j / 2 * 2 + 1 = off + j by omega] at e3
        rw [hu] at q
        rw [q]
        exact e3) (fun u hu => by
      obtain ⟨j, hj, rfl⟩ := List.getElem_of_mem hu
      simp only [cels, tab, List.getElem_map]
      split <;> rfl)
  refine Calls.mono hcon ?_
  rintro e w' ⟨v', rfl, ho, hne, hk⟩
  rcases ho.2 with ⟨rfl, _⟩ | ⟨g, cap, cur, rfl, hb, hg, hnc, hcm, hcs, htake⟩
  · exact absurd rfl hne
  · have hB : Blk w' g cur.toList 47 := hg
    have hat : ∀ j u, (cels L)[j]? = some u → w'.cell? ⟨g, j, none⟩ = some u := fun j u hu => by
      rw [← htake, List.getElem?_take] at hu
      split at hu
      · exact hB.cell hu
      · cases hu
    exact ⟨g, cap, rfl, hb, hB.lt, hnc, fun i hi => ⟨⟨hat _ _ (cels_0 hi), hB.free _⟩, hat _ _ (cels_1 hi), hB.free _⟩, Kept.ofBelow hk⟩
theorem invert_some (t n b cap : Nat) (a I : List (List Nat)) (rest : List Value) (w : World) (hT : Blk w t (tabC 255) 73) (hb : Blk w b (cellsM a rest) 5) (ha : Mt n n a) (hn : n ≤ 255) (hn0 : 1 ≤ n) (hcap : n * n ≤ cap) (hct : cap ≤ maxLen) (hI : invM n a = some I) :
    Calls Try.prog 29 #[.pointer (some ⟨t, 0, none⟩), mv b n n cap] w fun e w' => ∃ g, e = .returned (.tuple #[mv g n n (n * n), .int .i64 0]) ∧ Blk w' g (cellsM I []) 5 ∧ Kept [] w w' := by
  have h := invert_any t n b cap a rest w hT hb ha hn hn0 hcap hct
  rw [hI] at h
  exact h.mono fun e w' ⟨g, h1, _, h2, _, h3⟩ => ⟨g, h1, h2, h3⟩
end Go.Proofs.Ytjgnngnknhkpmaa
