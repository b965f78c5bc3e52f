/- Shards of a code word: plain; lists of shards, grown by append. RsAny. -/
import Derived.Test.YtjgnngnknhkpmaaRsD
import Derived.Test.YtjgnngnknhkpmaaShO
namespace Go.Proofs.Ytjgnngnknhkpmaa
open Go Go.RowKit
theorem cho_mem {N k : Nat} {L : List Sd} (hg : Good N L) (hN : N ≤ 255) : ∀ s ∈ cho k L, s ∈ L := fun s h => by
  obtain ⟨S, hp, hs⟩ := srt_ex hg
  rw [cho, lea_255 hg hN hp hs] at h
  exact hp.mem_iff.1 (List.mem_of_mem_take h)
theorem pls_at {A : List Sd} {q : Nat} (h : q < A.length) : (pls A).getD q 0 = (sd A q).x.toNat := by
  rw [pls, List.getD_eq_getElem?_getD, List.getElem?_map, sd_some h]
  rfl
theorem enc_row {k m n : Nat} {R ls : List (List Nat)} (h : Rows k m R) (hkm : k + m ≤ 255) (md : Mt k n ls) {x : Nat} (hx1 : x < k + m) : rw (ls ++ encR k n ls m) x = rw (mulM n R ls) x := by
  by_cases hx2 : x < k
  · rw [front_row h md hx2, rw.eq_def, List.getD_eq_getElem?_getD, List.getElem?_append_left (by rw [md.rows]; exact hx2)]
    exact (List.getD_eq_getElem?_getD).symm
  · rw [rw.eq_def, List.getD_eq_getElem?_getD, List.getElem?_append_right (by rw [md.rows]; omega), md.rows, encR, tab_get (by omega), mul_rw n R ls (by rw [h.mt.rows]; omega), row_wts h hkm hx1, md.rows]
    have e : k + (x - k) = x := by omega
    rw [e]
    rfl
structure WordL (k m n : Nat) (R ls : List (List Nat)) (L : List Sd) : Prop where
  good : Good (k + m) L
  row : ∀ s ∈ L, s.l = rw (mulM n R ls) s.x.toNat
theorem WordL.all {k m n : Nat} {R ls : List (List Nat)} {L : List Sd} (s : WordL k m n R ls L) (h : Rows k m R) (hkm : k + m ≤ 255) (md : Mt k n ls) (h1 : 1 ≤ k) (hkL : k ≤ L.length) (hn : n ≤ 1200) :
    EqL (byn L L.length) ∧ (rw (byn L L.length) 0).length = n ∧ decR k n (cho k L) k = ls ∧ FitB k n L := by
  have hM : Mt (k + m) n (mulM n R ls) := mulM_mt h.mt.rows md
  have hb := good_bound s.good
  have hlen : ∀ q ∈ L, q.l.length = n ∧ Oct q.l := fun q hq => by
    have h2 := hb q hq
    rw [s.row q hq]
    exact ⟨hM.len (by omega), hM.rowOct (by omega)⟩
  have hby : ∀ j, j < L.length → (rw (byn L L.length) j).length = n := fun j hj => by
    rw [byn_bys, bys_rw hj]
    exact (hlen _ (sd_mem hj)).1
  have h0 := hby 0 (by omega)
  have hE : EqL (byn L L.length) := ⟨by rw [h0]; exact hn, fun j hj => by rw [byn_len] at hj; rw [hby j hj, h0]⟩
  have hc := cho_ok (k := k) s.good hkm hkL hE (fun q hq => (hlen q hq).2) h0
  obtain ⟨I, _, _, _, hrw, hun⟩ := decoded h hkm hc
  have hd := hun ls md fun q hq => by
    have hq2 : q < (cho k L).length := by rw [hc.len]; exact hq
    have hm := cho_mem s.good hkm _ (sd_mem hq2)
    rw [bys_rw hq2, pls_at hq2]
    exact s.row _ hm
  refine ⟨hE, h0, hd, fun i hi => ?_⟩
  have h2 := hb _ (sd_mem hi)
  rw [← hrw _ (by omega), hd]
  exact (s.row _ (sd_mem hi)).symm
theorem fit_not {k m n : Nat} {R ls : List (List Nat)} {L0 : List Sd} {s : Sd} (h : Rows k m R) (hkm : k + m ≤ 255) (h1 : 1 ≤ k) (md : Mt k n ls) (hL : L0.length = k) (hr : ∀ i, i < k → (sd L0 i).x = (i : Int) ∧ (sd L0 i).l = rw ls i) (hx1 : s.x = (k : Int)) (hm : 1 ≤ m) (hln : s.l.length = n) (ho : Oct s.l) (hn : n ≤ 1200) (hs : s.l ≠ rw (mulM n R ls) k) :
    Good (k + m) (L0 ++ [s]) ∧ EqL (byn (L0 ++ [s]) (L0 ++ [s]).length) ∧ (∀ q ∈ L0 ++ [s], Oct q.l) ∧ (rw (byn (L0 ++ [s]) (L0 ++ [s]).length) 0).length = n ∧ ¬ FitB k n (L0 ++ [s]) := by
  have hat : ∀ i, i < k + 1 → (sd (L0 ++ [s]) i).x = (i : Int) ∧ (sd (L0 ++ [s]) i).l.length = n ∧ Oct (sd (L0 ++ [s]) i).l := fun i hi => by
    by_cases hik : i < k
    · have e : sd (L0 ++ [s]) i = sd L0 i := by rw [sd, sd, List.getD_eq_getElem?_getD, List.getD_eq_getElem?_getD, List.getElem?_append_left (by omega)]
      obtain ⟨h2, h3⟩ := hr i hik
      rw [e]
      exact ⟨h2, by rw [h3]; exact md.len hik, by rw [h3]; exact md.rowOct hik⟩
    · have e2 : i = k := by omega
      have e : sd (L0 ++ [s]) i = s := by rw [sd, List.getD_eq_getElem?_getD, List.getElem?_append_right (by omega), e2, hL, Nat.sub_self]; rfl
      rw [e, e2]
      exact ⟨hx1, hln, ho⟩
  have hlen : (L0 ++ [s]).length = k + 1 := by simp [hL]
  have hG : Good (k + m) (L0 ++ [s]) := fun i hi => by
    rw [hlen] at hi
    have h2 := (hat i hi).1
    refine ⟨by omega, fun hmem => ?_⟩
    rw [xsn_mem] at hmem
    obtain ⟨q, hq, h3⟩ := hmem
    have h4 := (hat q (by omega)).1
    omega
  have hby : ∀ j, j < (L0 ++ [s]).length → (rw (byn (L0 ++ [s]) (L0 ++ [s]).length) j).length = n := fun j hj => by
    rw [byn_bys, bys_rw hj]
    exact (hat j (by omega)).2.1
  have h0 := hby 0 (by omega)
  have hE : EqL (byn (L0 ++ [s]) (L0 ++ [s]).length) := ⟨by rw [h0]; exact hn, fun j hj => by rw [byn_len] at hj; rw [hby j hj, h0]⟩
  have hO : ∀ q ∈ L0 ++ [s], Oct q.l := fun q hq => by
    obtain ⟨i, hi, rfl⟩ := List.getElem_of_mem hq
    have h2 := (hat i (by omega)).2.2
    rw [sd_get hi] at h2
    exact h2
  have hA : Asc (L0 ++ [s]) := by
    rw [Asc, List.pairwise_iff_getElem]
    intro i j hi hj hij
    have h2 := (hat i (by omega)).1
    have h3 := (hat j (by omega)).1
    rw [sd_get hi] at h2
    rw [sd_get hj] at h3
    omega
  have hcho : cho k (L0 ++ [s]) = L0 := by rw [cho, lea_255 hG hkm (List.Perm.refl _) hA, ← hL]; simp
  have hc := cho_ok (k := k) hG hkm (by omega) hE hO h0
  obtain ⟨I, _, _, _, hrw, hun⟩ := decoded h hkm hc
  have hd := hun ls md fun q hq => by
    rw [hcho, bys_rw (by omega), pls_at (by omega)]
    obtain ⟨h2, h3⟩ := hr q hq
    rw [h3, h2, Int.toNat_natCast, front_row h md hq]
  refine ⟨hG, hE, hO, h0, fun hf => ?_⟩
  have h2 := hf k (by omega)
  have e : sd (L0 ++ [s]) k = s := by rw [sd, List.getD_eq_getElem?_getD, List.getElem?_append_right (by omega), hL, Nat.sub_self]; rfl
  rw [e, hx1, Int.toNat_natCast, ← hrw k (by omega), hd] at h2
  exact hs h2.symm
/-- A list of shards, grown by append. -/
def shc (L : List Sd) : List Value := L.flatMap fun s => [.int .i64 s.x, .slice s.a s.l.length s.c]
theorem shc_push (L : List Sd) (s : Sd) : shc (L ++ [s]) = shc L ++ [.int .i64 s.x, .slice s.a s.l.length s.c] := by simp [shc]
theorem shc_len (L : List Sd) : (shc L).length = L.length * 2 := by
  induction L with
  | nil => rfl
  | cons s L ih =>
    have e : shc (s :: L) = [.int .i64 s.x, .slice s.a s.l.length s.c] ++ shc L := rfl
    rw [e, List.length_append, ih]
    simp only [List.length_cons, List.length_nil]
    omega
theorem shc_at : ∀ (L : List Sd) (i : Nat), i < L.length → (shc L)[i * 2]? = some (.int .i64 (sd L i).x) ∧ (shc L)[i * 2 + 1]? = some (.slice (sd L i).a (sd L i).l.length (sd L i).c)
  | [], i, h => absurd h (by simp)
  | s :: L, 0, _ => ⟨rfl, rfl⟩
  | s :: L, i + 1, h => by
    have h2 := shc_at L i (by simpa using h)
    have e : shc (s :: L) = .int .i64 s.x :: .slice s.a s.l.length s.c :: shc L := rfl
    have e2 : sd (s :: L) (i + 1) = sd L i := rfl
    rw [e, e2, show (i + 1) * 2 = i * 2 + 1 + 1 by omega, List.getElem?_cons_succ, List.getElem?_cons_succ, List.getElem?_cons_succ, List.getElem?_cons_succ]
    exact h2
theorem sh_form {w w0 : World} {base : Nat} {v : Value} {L : List Sd} (h : w.ownsRow base 47 2 v L.length (shc L)) (hr : ∀ s ∈ L, Bn w0 s.a s.l) (hk : Kept [] w0 w) : ∃ a c, v = .slice a L.length c ∧ L.length ≤ c ∧ Sh w a L := by
  rcases h.2 with ⟨h1, h0⟩ | ⟨g, cap, cur, h1, hb, hg, hnc, hcm, hcs, htake⟩
  · refine ⟨none, 0, by rw [h0]; exact h1, by omega, fun i hi => absurd hi (by omega)⟩
  · refine ⟨some ⟨g, 0, none⟩, cap, h1, hnc, fun i hi => ?_⟩
    subst h1
    have h2 := shc_at L i hi
    have c0 := h.cellAt (i * 2) (by omega)
    have c1 := h.cellAt (i * 2 + 1) (by omega)
    rw [h2.1] at c0
    rw [h2.2] at c1
    exact ⟨g, 0, rfl, by rw [Nat.zero_add]; exact c0, by rw [Nat.zero_add]; exact c1, (hr _ (sd_mem hi)).kept hk⟩
theorem infoShd : (Try.prog.info? 47).map (fun i => (i.zero, i.size, i.bytes)) = some (some (.agg #[.int .i64 0, .slice none 0 0]), 2, 32) := infoSh
theorem own_pushS {w8 : World} {base : Nat} {v2 : Value} {L : List Sd} {s : Sd} (h : w8.ownsRow base 47 2 v2 (L.length + 1) (shc L ++ [.int .i64 s.x, .slice s.a s.l.length s.c])) : w8.ownsRow base 47 2 v2 (L ++ [s]).length (shc (L ++ [s])) := by
  rw [shc_push, List.length_append]
  exact h
theorem good_push {N : Nat} {L : List Sd} {s : Sd} (h : Good N L) (h2 : 0 ≤ s.x ∧ s.x < (N : Int)) (h3 : s.x ∉ xsn L L.length) : Good N (L ++ [s]) := fun i hi => by
  rw [List.length_append, List.length_singleton] at hi
  have hxs : ∀ q, q ≤ L.length → xsn (L ++ [s]) q = xsn L q := fun q hq => by
    unfold xsn
    refine List.map_congr_left fun p hp => ?_
    rw [List.mem_range] at hp
    rw [sd, sd, List.getD_eq_getElem?_getD, List.getD_eq_getElem?_getD, List.getElem?_append_left (by omega)]
  by_cases hi2 : i < L.length
  · have e : sd (L ++ [s]) i = sd L i := by rw [sd, sd, List.getD_eq_getElem?_getD, List.getD_eq_getElem?_getD, List.getElem?_append_left hi2]
    rw [e, hxs i (by omega)]
    exact h i hi2
  · have e2 : i = L.length := by omega
    have e : sd (L ++ [s]) i = s := by rw [sd, List.getD_eq_getElem?_getD, List.getElem?_append_right (by omega), e2, Nat.sub_self]; rfl
    rw [e, e2, hxs _ (Nat.le_refl _)]
    exact ⟨h2, h3⟩
theorem xsn_all (L : List Sd) (s : Sd) : xsn (L ++ [s]) (L ++ [s]).length = xsn L L.length ++ [s.x] := by
  have hxs : xsn (L ++ [s]) L.length = xsn L L.length := by
    unfold xsn
    refine List.map_congr_left fun p hp => ?_
    rw [List.mem_range] at hp
    rw [sd, sd, List.getD_eq_getElem?_getD, List.getD_eq_getElem?_getD, List.getElem?_append_left (by omega)]
  have e : sd (L ++ [s]) L.length = s := by rw [sd, List.getD_eq_getElem?_getD, List.getElem?_append_right (by omega), Nat.sub_self]; rfl
  rw [List.length_append, List.length_singleton, xsn_step, hxs, e]
/-- Numbers, where they lie. -/
def Ix (w : World) (a : Option Addr) (l : List Int) : Prop := ∀ i, i < l.length → ∃ b off, a = some ⟨b, off, none⟩ ∧ w.cell? ⟨b, off + i, none⟩ = some (.int .i64 (l.getD i 0))
theorem Ix.kept {w w2 : World} {a : Option Addr} {xs : List Int} (h : Ix w a xs) (hk : Kept [] w w2) : Ix w2 a xs := fun i hi => by
  obtain ⟨b, off, h1, h2⟩ := h i hi
  exact ⟨b, off, h1, kept_cell hk h2⟩
theorem cs_list {w : World} {a : Option Addr} {ls : List (List Nat)} (h : Cs w a ls) : ∃ sl : List Value, sl.length = ls.length ∧ (∀ j, j < ls.length → ∃ ai ci, sl[j]? = some (.slice ai (rw ls j).length ci) ∧ Bn w ai (rw ls j)) ∧
    (∀ ad, a = some ad → ∀ j u, sl[j]? = some u → w.cell? (ad.add j) = some u) ∧ ∀ u ∈ sl, u.oneCell' = true := by
  obtain ⟨sl, h1, h2⟩ := list_of (Value.bool false) (fun i (v : Value) => ∃ b off ai ci, a = some ⟨b, off, none⟩ ∧ v = .slice ai (rw ls i).length ci ∧ w.cell? ⟨b, off + i, none⟩ = some v ∧ Bn w ai (rw ls i)) ls.length (fun i hi => by
    obtain ⟨b, off, ai, ci, e1, e2, e3⟩ := h i hi
    exact ⟨_, b, off, ai, ci, e1, rfl, e2, e3⟩)
  refine ⟨sl, h1, fun j hj => ?_, fun ad ha j u hu => ?_, fun u hu => ?_⟩
  · obtain ⟨b, off, ai, ci, _, e2, _, e3⟩ := h2 j hj
    exact ⟨ai, ci, by rw [getD_some (Value.bool false) (by omega), e2], e3⟩
  · have hj : j < sl.length := (List.getElem?_eq_some_iff.1 hu).1
    obtain ⟨b, off, ai, ci, e1, _, e2, _⟩ := h2 j (by omega)
    rw [getD_some (Value.bool false) hj] at hu
    rw [Option.some.inj hu] at e2
    rw [e1] at ha
    cases ha
    rw [Addr.add_mid]
    exact e2
  · obtain ⟨j, hj, rfl⟩ := List.getElem_of_mem hu
    obtain ⟨b, off, ai, ci, _, e2, _⟩ := h2 j (by omega)
    rw [List.getD_eq_getElem?_getD, List.getElem?_eq_getElem hj] at e2
    rw [show sl[j] = _ from e2]
    rfl
theorem Cl.lit0 (lo base : Nat) (w : World) (cs : Array Value) (hc : cs.size = 0) (hb : base ≤ w.heap.size) : Cl lo base (w.alloc (.cells cs 39)) (.slice (some ⟨w.heap.size, 0, none⟩) 0 0) [] :=
  ⟨cs.toList, by simpa using hc, by
    have h := World.ownsRow_lit (base := base) (e := 39) (size := 1) w cs 0 hb (Nat.zero_le _) (by omega)
    have e : cs.toList.length = 0 := by simpa using hc
    rw [e]
    exact h, fun j hj => absurd hj (by simp)⟩
theorem Cl.app {lo base : Nat} {w w8 : World} {v v2 : Value} {ls ls2 : List (List Nat)} {sl sl2 : List Value} (hlen : sl.length = ls.length) (hown : w.ownsRow base 39 1 v sl.length sl) (hrows : ∀ j, j < ls.length → ∃ ai ci, sl[j]? = some (.slice ai (rw ls j).length ci) ∧ Br lo w ai (rw ls j))
    (hb : lo ≤ base) (h2 : sl2.length = ls2.length) (hr2 : ∀ j, j < ls2.length → ∃ ai ci, sl2[j]? = some (.slice ai (rw ls2 j).length ci) ∧ Br lo w ai (rw ls2 j)) (ho : w8.ownsRow base 39 1 v2 (sl.length + sl2.length) (sl ++ sl2)) (hg : w.grownBy w8 v.ownBlock) : Cl lo base w8 v2 (ls ++ ls2) := by
  refine ⟨sl ++ sl2, by simp [hlen, h2], by rw [List.length_append]; exact ho, fun j hj => ?_⟩
  rw [List.length_append] at hj
  by_cases h : j < ls.length
  · obtain ⟨ai, ci, h3, h4⟩ := hrows j h
    have e : rw (ls ++ ls2) j = rw ls j := by rw [rw, rw, List.getD_eq_getElem?_getD, List.getD_eq_getElem?_getD, List.getElem?_append_left h]
    rw [e]
    exact ⟨ai, ci, by rw [List.getElem?_append_left (by omega)]; exact h3, h4.grown hown hb hg⟩
  · obtain ⟨ai, ci, h3, h4⟩ := hr2 (j - ls.length) (by omega)
    have e : rw (ls ++ ls2) j = rw ls2 (j - ls.length) := by rw [rw, rw, List.getD_eq_getElem?_getD, List.getD_eq_getElem?_getD, List.getElem?_append_right (by omega)]
    rw [e]
    exact ⟨ai, ci, by rw [List.getElem?_append_right (by omega), hlen]; exact h3, h4.grown hown hb hg⟩
theorem cs_none {w : World} {a : Option Addr} {ls : List (List Nat)} (h : Cs w a ls) (ha : a = none) : ls.length = 0 := by
  rcases Nat.eq_zero_or_pos ls.length with g | g
  · exact g
  · obtain ⟨b, off, _, _, e, _⟩ := h 0 g
    rw [ha] at e
    cases e
theorem encR_len (k n : Nat) (ls : List (List Nat)) (m : Nat) : (encR k n ls m).length = m := tab_len _ _
/-- The number of a shard that is kept. -/
theorem mod_case (x : Int) (N : Nat) (hN : 1 ≤ N) : -(N : Int) < x.tmod N ∧ x.tmod N < (N : Int) := by
  have h1 := Int.tmod_lt_of_pos x (show (0 : Int) < (N : Int) by omega)
  have h2 := Int.lt_tmod_of_pos x (show (0 : Int) < (N : Int) by omega)
  omega
theorem own_keptB {w w2 : World} {base size : Nat} {e : TypeId} {v : Value} {n : Nat} {xs : List Value} {bs : List Nat} (h : w.ownsRow base e size v n xs) (hk : Kept bs w w2) (hb : ∀ b ∈ bs, b < base) : w2.ownsRow base e size v n xs := by
  refine ⟨h.1, ?_⟩
  rcases h.2 with hn | ⟨g, cap, cur, rfl, hbg, hg, rest⟩
  · exact .inl hn
  · exact .inr ⟨g, cap, cur, rfl, hbg, (hk.block g (Array.getElem?_eq_some_iff.1 hg).1 (fun h2 => by have := hb g h2; omega)).trans hg, rest⟩
end Go.Proofs.Ytjgnngnknhkpmaa
namespace Go.Proofs.Ytjgnngnknhkpmaa
open Go Go.RowKit
theorem Br.ofCp {w6 w7 : World} {a : Option Addr} {ls : List (List Nat)} (h : Cs w6 a ls) {j : Nat} (hj : j < ls.length) {sl : List Value} {ai : Option Addr} {ci : Nat} (e1 : sl[j]? = some (.slice ai (rw ls j).length ci)) (h3 : ∀ ad, a = some ad → ∀ u, sl[j]? = some u → w7.cell? (ad.add j) = some u) (hk : Kept [] w6 w7) : Br w6.heap.size w7 ai (rw ls j) := by
  obtain ⟨b, off, a2, c2, e2, e3, e4⟩ := h j hj
  have e5 := h3 _ e2 _ e1
  rw [Addr.add_mid] at e5
  rw [kept_cell hk e3] at e5
  cases e5
  exact Br.ofBn e4 (Nat.le_refl _) hk
def zB40 : Array Value := #[.bool false, .bool false, .bool false, .bool false, .bool false, .bool false, .bool false, .bool false, .bool false, .bool false, .bool false, .bool false, .bool false, .bool false, .bool false, .bool false, .bool false, .bool false, .bool false, .bool false, .bool false, .bool false, .bool false, .bool false, .bool false, .bool false, .bool false, .bool false, .bool false, .bool false, .bool false, .bool false, .bool false, .bool false, .bool false, .bool false, .bool false, .bool false, .bool false, .bool false]
theorem eql_of {ls : List (List Nat)} {n : Nat} (h0 : (rw ls 0).length = n) (h : ∀ j, j < ls.length → (rw ls j).length = n ∧ n ≤ 1200) (h1 : 1 ≤ ls.length) (hO : ∀ x ∈ ls, Oct x) : EqL ls ∧ Mt ls.length n ls ∧ n ≤ 1200 := by
  have h9 := (h 0 (by omega)).2
  refine ⟨⟨by omega, fun j hj => by rw [(h j hj).1, h0]⟩, ⟨rfl, fun x hx1 => ?_, hO⟩, h9⟩
  obtain ⟨i, hi, rfl⟩ := List.getElem_of_mem hx1
  have h2 := (h i hi).1
  rw [rw_get hi] at h2
  exact h2
set_option maxRecDepth 100000 in
set_option maxHeartbeats 8000000 in
theorem law_any (ki mi tn : Int) (c2 c3 : Nat) (a2 a3 : Option Addr) (ls : List (List Nat)) (ks : List Int) (w : World) (hC : Cs w a2 ls) (hO : ∀ x ∈ ls, Oct x) (hI : Ix w a3 ks) (hl : ls.length ≤ maxLen) (hlc : ls.length ≤ c2) (hk : ks.length ≤ maxLen) :
    Calls Try.prog 6 #[.agg #[.int .i64 ki, .int .i64 mi, .slice a2 ls.length c2, .slice a3 ks.length c3, .int .i64 tn]] w fun e w' => e = .returned (.bool true) ∧ Kept [] w w' := by
  have HC := hx hC
  have HO := hx hO
  have HI := hx hI
  have hli : (ls.length : Int) ≤ maxLen := by omega
  have hki : (ks.length : Int) ≤ maxLen := by omega
  unfold maxLen at hli hki
  have BX0 := hx (Blk.new w [.int .i64 ki, .int .i64 mi, .slice a2 ls.length c2, .slice a3 ks.length c3, .int .i64 tn] 57)
  have KX0 := hx ((Kept.refl [] w).alloc (.cells #[.int .i64 ki, .int .i64 mi, .slice a2 ls.length c2, .slice a3 ks.length c3, .int .i64 tn] 57))
  have HLC := hx hlc
  clear hC hO hI hl hk hlc
  generalize hlen : ls.length = len at *
  have HLEN := hx hlen
  generalize hkn : ks.length = kn at *
  have HKN := hx hkn
  clear hlen hkn
  go_enter Try.func6, Try.ntmps6
  go_upto_region 1 with fail
  generalize w.alloc (.cells #[.int .i64 ki, .int .i64 mi, .slice a2 len c2, .slice a3 kn c3, .int .i64 tn] 57) = W0 at *
  generalize w.heap.size = bx at *
  go_wp2_with fail
  refine (awake_any W0).mono ?_
  rintro e w1 ⟨rfl, hk1⟩
  have K1 := hx (KX0.out.trans0 hk1)
  have BX := hx (hk1.blk BX0.out (by simp))
  clear hk1 KX0 BX0
  have x0 := BX.out.cell (i := 0) rfl
  have x1 := BX.out.cell (i := 1) rfl
  have x2 := BX.out.cell (i := 2) rfl
  have x3 := BX.out.cell (i := 3) rfl
  have HFW := hx (show Calls Try.prog 10 #[.slice a2 len c2] w1 (FewR ls w1) by rw [← HLEN.out]; exact few_any a2 c2 ls w1 (HC.out.kept K1.out))
  by_cases hgo : (len : Int) = ki ∧ kn ≤ 60
  · obtain ⟨rfl, h60⟩ := hgo
    have hne : ((len : Int) != (len : Int)) = false := by simp
    have h60i : ¬ 60 < (kn : Int) := by omega
    go_wp2_with fail
    refine (small_any (len : Int) mi w1).mono ?_
    rintro e w2 ⟨hs, rfl⟩
    rcases hs with ⟨hs, rfl⟩ | ⟨_, rfl⟩
    · obtain ⟨m, rfl⟩ := Int.eq_ofNat_of_zero_le (show 0 ≤ mi by have := hs.2.1; omega)
      have HSM := hx (show 1 ≤ len ∧ len ≤ 20 ∧ m ≤ 20 by obtain ⟨h1, h2, h3, h4⟩ := hs; omega)
      clear hs
      go_wp2_with fail
      refine HFW.out.mono ?_
      rintro e w2 ⟨hf, rfl⟩
      rcases hf with ⟨_, rfl⟩ | rfl
      · clear HFW
        obtain ⟨n, hn0⟩ : ∃ n, (rw ls 0).length = n := ⟨_, rfl⟩
        have HN0 := hx hn0
        obtain ⟨b, o, a0, c0, ha2, hc0, _⟩ := (HC.out.kept K1.out) 0 (by rw [HLEN.out]; exact HSM.out.1)
        subst ha2
        rw [Nat.add_zero, hn0] at hc0
        have HCI := hx (fun i (hi : i < len) => show ∃ ai ci, w1.cell? ⟨b, o + i, none⟩ = some (.slice ai (rw ls i).length ci) by
          obtain ⟨b2, o2, ai, ci, e1, e2, _⟩ := (HC.out.kept K1.out) i (by rw [HLEN.out]; exact hi)
          simp only [Option.some.injEq, Addr.mk.injEq, and_true] at e1
          obtain ⟨rfl, rfl⟩ := e1
          exact ⟨ai, ci, e2⟩)
        have hl1 : (1 : Int) ≤ (len : Int) := by have := HSM.out.1; omega
        clear hn0
        go_wp2_with fail
        go_loopw [3] (fun iv wr => ∃ i : Nat, i ≤ len ∧ iv = .int .i64 i ∧ (∀ j, j < i → (rw ls j).length = n ∧ n ≤ 1200) ∧ Kept [] w1 wr) (fun iv _ => len - (intOf iv).toNat)
        case atStart => exact ⟨0, by omega, rfl, fun j hj => absurd hj (by omega), Kept.refl _ _⟩
        case round =>
          obtain ⟨i, hi, rfl, hall, hk⟩ := hrel
          have HA := hx hall
          have HK := hx hk
          have y0 := kept_cell hk x0
          have y1 := kept_cell hk x1
          have y2 := kept_cell hk x2
          have y3 := kept_cell hk x3
          clear hall
          by_cases hlt : i < len
          · have hii : (i : Int) < (len : Int) := by omega
            obtain ⟨ai, ci, e1⟩ := HCI.out i hlt
            have f1 := kept_cell hk e1
            have f0 := kept_cell hk hc0
            clear e1 hk
            by_cases hq : (rw ls i).length = n
            · have HQ := hx hq
              rw [hq] at f1
              clear hq
              have hnn : ((n : Int) != (n : Int)) = false := by simp
              by_cases h12 : n ≤ 1200
              · have h12i : ¬ 1200 < (n : Int) := by omega
                go_upto_region 8 with fail
                go_quiet (fail)
                go_wp2_with fail
                go_roundw
                case rel => exact ⟨i + 1, by omega, by go_num, fun j hj => by
                  by_cases hj2 : j < i
                  · exact HA.out j hj2
                  · have e : j = i := by omega
                    rw [e]
                    exact ⟨HQ.out, h12⟩, HK.out.drewN _⟩
                case measure => simp [intOf] <;> omega
              · have h12i : 1200 < (n : Int) := by omega
                go_upto_region 8 with fail
                go_quiet (fail)
                have KE := hx (K1.out.trans0 (HK.out.drewN nq))
                go_wp2_with fail
                try go_ret
                exact ⟨rfl, KE.out⟩
            · generalize (rw ls i).length = q at *
              have hnn : ((q : Int) != (n : Int)) = true := bne_iff_ne.2 (by omega)
              go_upto_region 8 with fail
              go_quiet (fail)
              have KE := hx (K1.out.trans0 (HK.out.drewN nq))
              go_wp2_with fail
              try go_ret
              exact ⟨rfl, KE.out⟩
          · obtain rfl : i = len := by omega
            obtain ⟨hE, hM, h12⟩ := eql_of HN0.out (fun j hj => HA.out j (by rw [← HLEN.out]; exact hj)) (by rw [HLEN.out]; exact HSM.out.1) HO.out
            rw [HLEN.out] at hM
            have HE := hx hE
            have HM := hx hM
            have HN := hx h12
            have BY := hx (hk.blk BX.out (by simp))
            have K2 := hx (K1.out.trans0 hk)
            clear hE hM h12 hk x0 x1 x2 x3 BX hc0 HCI HA HK
            have HKM := hx (show i + m ≤ 255 by have := HSM.out; omega)
            have HG := hx (fun (w3 w4 : World) (h : (w3.cell? ⟨bx, 0, none⟩ = some (.int .i64 (i : Int)) ∧ w3.cell? ⟨bx, 1, none⟩ = some (.int .i64 (m : Int))) ∧ Hx (Kept [] wr w3)) (hk : Kept [] w3 w4) => (show (w4.cell? ⟨bx, 0, none⟩ = some (.int .i64 (i : Int)) ∧ w4.cell? ⟨bx, 1, none⟩ = some (.int .i64 (m : Int))) ∧ Hx (Kept [] wr w4) from ⟨⟨kept_cell hk h.1.1, kept_cell hk h.1.2⟩, hx (h.2.out.trans0 hk)⟩))
            have HS0 := hx (show (wr.drew.cell? ⟨bx, 0, none⟩ = some (.int .i64 (i : Int)) ∧ wr.drew.cell? ⟨bx, 1, none⟩ = some (.int .i64 (m : Int))) ∧ Hx (Kept [] wr wr.drew) from ⟨⟨kept_cell (Kept.refl [] wr).drew y0, kept_cell (Kept.refl [] wr).drew y1⟩, hx (Kept.refl [] wr).drew⟩)
            go_upto_region 10 with fail
            go_region_held3 (fun w3 => (w3.cell? ⟨bx, 0, none⟩ = some (.int .i64 (i : Int)) ∧ w3.cell? ⟨bx, 1, none⟩ = some (.int .i64 (m : Int))) ∧ Hx (Kept [] wr w3))
              (first | exact hSS | exact HS0.out | assumption)
              (first | (go_at_call 12; refine (gfnew_any _).mono ?_; rintro e w4 ⟨rfl, hT, hk4⟩; have hSS := HG.out _ _ (by assumption) hk4; have HT := hx hT)
                     | (go_at_call 11; refine (rsnew_any _ i m _ HT.out HSM.out.1 HKM.out).mono ?_; rintro e w5 hc5; obtain ⟨g, gr, R, rfl, hcod, hk5⟩ := cod_new HT.out HKM.out hc5; have hSS := HG.out _ _ (by assumption) hk5; have HCD := hx hcod))
            have KW := hx (show Kept [] w _ from K2.out.trans0 hSS.2.out)
            have BZ := hx (hSS.2.out.blk BY.out (by simp))
            have HEN := hx (enc_any _ g gr i m n c2 R ls (some ⟨b, o, none⟩) _ HCD.out HM.out HSM.out.1 HKM.out (HC.out.kept KW.out) HE.out HN.out)
            have HRW := hx (HCD.out.rows HKM.out)
            rw [mulM_enc HRW.out HKM.out HM.out, HLEN.out] at HEN
            have z1 := BZ.out.cell (i := 1) rfl
            have z2 := BZ.out.cell (i := 2) rfl
            clear hSS HG HS0 BY y0 y1 y2 y3 K2 HT
            go_wp2_with fail
            refine HEN.out.mono ?_
            rintro e w6 ⟨ap, rfl, hcp, hk6⟩
            have hmm : ((m : Int) != (m : Int)) = false := by simp
            have K6 := hx (KW.out.trans0 hk6)
            have CD := hx (HCD.out.kept hk6)
            have B6 := hx (hk6.blk BZ.out (by simp))
            have CP := hx hcp
            have v0 := B6.out.cell (i := 0) rfl
            have v1 := B6.out.cell (i := 1) rfl
            have v2 := B6.out.cell (i := 2) rfl
            have v3 := B6.out.cell (i := 3) rfl
            obtain ⟨sl1, p1, p2, p3, p4⟩ := cs_list ((HC.out.kept K6.out).kept ((Kept.refl [] w6).alloc (.cells #[] 39)))
            have HB1 := hx (fun j (hj : j < ls.length) => show ∃ ai ci, sl1[j]? = some (.slice ai (rw ls j).length ci) ∧ Br w6.heap.size (w6.alloc (.cells #[] 39)) ai (rw ls j) by
              obtain ⟨ai, ci, e4, _⟩ := p2 j hj
              exact ⟨ai, ci, e4, Br.ofCp (HC.out.kept K6.out) hj e4 (fun ad ha u hu => p3 ad ha j u hu) ((Kept.refl [] w6).alloc _)⟩)
            have HO0 := hx (World.ownsRow_lit (base := w6.heap.size) (e := 39) (size := 1) w6 #[] 0 (Nat.le_refl _) (Nat.zero_le _) rfl)
            have v2a := kept_cell ((Kept.refl [] w6).alloc (.cells #[] 39)) v2
            have P1 := hx (show sl1.length = i by rw [p1, HLEN.out])
            have P1L := hx p1
            have P3 := hx p3
            have P4 := hx p4
            have HIC := hx (show i ≤ c2 from HLC.out)
            have hi20 : i ≤ 20 := HSM.out.2.1
            have hm20 : m ≤ 20 := HSM.out.2.2
            clear hcp hk6 z1 z2 BZ KW HEN HCD p1 p2 p3 p4
            go_wp2_with (first
              | (at_builtin; refine wpList_app rfl (.tmp 104) (.tmp 106) 22 rfl w6.heap.size 39 (.slice none 0 0) 1 24 infoBs Try.underlying22 rfl (by omega) (.slice (some ⟨w6.heap.size, 0, none⟩) 0 0) 0 [] rfl HO0.out (some ⟨b, o, none⟩) i c2 sl1 rfl (by rw [P1.out]; omega) (fun h => by cases h) HIC.out P3.out P4.out (by unfold maxLen; omega) (by omega) (by simp) ?_; intro u7 w7 ho7 hg7; rw [Nat.zero_add, List.nil_append, ← P1.out] at ho7; have HK7 := hx (((Kept.refl [] w6).alloc (.cells #[] 39)).grown hg7 (fun q hq => by simp only [Value.ownBlock, Option.some.injEq] at hq; right; omega)); have HA7 := hx (show Cl w6.heap.size w6.heap.size w7 u7 ls from Cl.app (ls := []) (sl := []) rfl HO0.out (fun j hj => absurd hj (by simp)) (Nat.le_refl _) P1L.out HB1.out (by rw [List.length_nil, Nat.zero_add, List.nil_append]; exact ho7) hg7); obtain ⟨sl7, s1, s2, s3⟩ := HA7.out.rows; obtain ⟨sl2, g1, g2, g3, g4⟩ := cs_list (CP.out.kept HK7.out); rw [encR_len] at g1; have S1 := hx s1; have S2 := hx s2; have S3 := hx s3; have G1 := hx g1; have G2 := hx g2; have G3 := hx g3; have G4 := hx g4; have SL := hx (show sl7.length = i by rw [s1, HLEN.out]); clear ho7 hg7 s1 s2 s3 g1 g2 g3 g4)
              | (at_builtin; refine wpList_app rfl (.tmp 107) (.tmp 108) 22 rfl w6.heap.size 39 (.slice none 0 0) 1 24 infoBs Try.underlying22 rfl (by omega) u7 sl7.length sl7 rfl S2.out ap m m sl2 rfl (by rw [G1.out]; omega) (fun h => by have := cs_none CP.out h; rw [encR_len] at this; omega) (Nat.le_refl _) G3.out G4.out (by unfold maxLen; have := SL.out; omega) (by have := SL.out; omega) HK7.out.size ?_; intro u8 w8 ho8 hg8; rw [← G1.out] at ho8; have HK8 := hx (HK7.out.grown hg8 (fun q hq => .inr (S2.out.lt q hq).1)); have HA8 := hx (Cl.app (ls2 := encR i n ls m) S1.out S2.out S3.out (Nat.le_refl _) (by rw [G1.out, encR_len]) (fun j hj => by obtain ⟨ai, ci, e1, e2⟩ := G2.out j hj; exact ⟨ai, ci, e1, Br.ofCp (CP.out) hj e1 (fun ad ha u hu => G3.out ad ha j u hu) HK7.out⟩) ho8 hg8); clear ho8 hg8))
            have HPL := hx (show (ls ++ encR i n ls m).length = i + m by rw [List.length_append, encR_len, HLEN.out])
            obtain ⟨al, cl, hv8, _, hcs8⟩ := HA8.out.form
            rw [HPL.out] at hv8
            subst hv8
            have C8 := hx hcs8
            have B8 := hx (HK8.out.blk B6.out (by simp))
            have CD8 := hx (CD.out.kept HK8.out)
            have K8 := hx (K6.out.trans0 HK8.out)
            have HER := hx (fun x (hx1 : x < i + m) => enc_row HRW.out HKM.out HM.out hx1)
            have BS0 := hx (show Blk (w8.alloc (.cells zB40 58)) w8.heap.size (usd 40 []) 58 from Blk.new' w8 zB40 58)
            have KS0 := hx ((Kept.refl [] w8).alloc (.cells zB40 58))
            have HSZ := hx (show (w8.alloc (.cells zB40 58)).heap.size = w8.heap.size + 1 by simp)
            unfold zB40 at BS0 KS0 HSZ
            clear hcs8 HA8 HK8 HK7 K6 CP CD B6 v0 v1 v2 v3 v2a S1 S2 S3 G1 G2 G3 G4 SL P1 P1L P3 P4 HB1 HO0
            obtain ⟨N, hN⟩ : ∃ N, i + m = N := ⟨_, rfl⟩
            have hN1 : 1 ≤ N := by have := HSM.out.1; omega
            have hN40 : N ≤ 40 := by omega
            have hNi : (1 : Int) ≤ (N : Int) := by omega
            have hNi40 : (N : Int) ≤ 40 := by omega
            have HNE := hx hN
            rw [hN] at HPL HER ⊢
            clear hN
            go_upto_region 19 with fail
            generalize w8.alloc (.cells #[.bool false, .bool false, .bool false, .bool false, .bool false, .bool false, .bool false, .bool false, .bool false, .bool false, .bool false, .bool false, .bool false, .bool false, .bool false, .bool false, .bool false, .bool false, .bool false, .bool false, .bool false, .bool false, .bool false, .bool false, .bool false, .bool false, .bool false, .bool false, .bool false, .bool false, .bool false, .bool false, .bool false, .bool false, .bool false, .bool false, .bool false, .bool false, .bool false, .bool false] 58) = W9 at *
            have HGS := hx (show w8.heap.size ≤ w8.heap.size from Nat.le_refl _)
            generalize hgs : w8.heap.size = gs at *
            have HGE := hx hgs
            clear hgs
            go_wp2_with fail
            go_loopw [9, 11] (fun ov iv wr => ∃ (q : Nat) (u : Value) (L : List Sd), q ≤ kn ∧ iv = .int .i64 q ∧ u = ov ∧ wr.ownsRow (gs + 1) 47 2 u L.length (shc L) ∧ Blk wr gs (usd 40 (xsn L L.length)) 58 ∧ WordL i m n R ls L ∧ (∀ s ∈ L, Bn w8 s.a s.l) ∧ L.length ≤ q ∧ Kept [] w8 wr) (fun _ iv _ => kn - (intOf iv).toNat)
            case atStart => exact ⟨0, _, [], by omega, rfl, rfl, World.ownsRow_nil _ _ _ _, BS0.out, ⟨(by intro j hj; simp at hj), (by intro s hs; simp at hs)⟩, (by intro s hs; simp at hs), by simp, KS0.out⟩
            case round =>
              clear BS0 KS0
              obtain ⟨q, u, L, hq, rfl, rfl, how, hbs, hwl, hbn, hlq, hk⟩ := hrel
              have HOW := hx how
              have HBS := hx hbs
              have HWL := hx hwl
              have HBNS := hx hbn
              have HLQ := hx hlq
              have HK := hx hk
              have BR := hx (hk.blk B8.out (by simp))
              have x0 := BR.out.cell (i := 0) rfl
              have x2 := BR.out.cell (i := 2) rfl
              have x3 := BR.out.cell (i := 3) rfl
              clear how hbs hwl hbn hlq
              by_cases hlt : q < kn
              · have hqi : (q : Int) < (kn : Int) := by omega
                obtain ⟨b3, o3, ha3, hc3⟩ := HI.out q (by rw [HKN.out]; exact hlt)
                subst ha3
                have e3 := kept_cell hk (kept_cell K8.out hc3)
                clear hc3 hk
                generalize ks.getD q 0 = x at *
                obtain ⟨hr1, hr2⟩ := mod_case x N hN1
                go_upto_region 23 with fail
                generalize x.tmod (N : Int) = r at *
                clear e3
                have hcase : ∃ y : Nat, y < N ∧ (r = (y : Int) - (N : Int) ∨ r = (y : Int)) := by
                  by_cases h : r < 0
                  · obtain ⟨y, hy⟩ := Int.eq_ofNat_of_zero_le (show 0 ≤ r + (N : Int) by omega)
                    exact ⟨y, by omega, .inl (by omega)⟩
                  · obtain ⟨y, hy⟩ := Int.eq_ofNat_of_zero_le (show 0 ≤ r by omega)
                    exact ⟨y, by omega, .inr hy⟩
                obtain ⟨y, hyN, hry⟩ := hcase
                clear hr1 hr2
                have hyi : (y : Int) < (N : Int) := by omega
                have hy40 : y < 40 := by omega
                have HYN := hx hyN
                obtain ⟨b8, o8, ai, ci, ha8, hc8, hb8⟩ := C8.out y (by rw [HPL.out]; exact hyN)
                subst ha8
                have HROW := hx (HER.out y hyN)
                generalize hrw : rw (ls ++ encR i n ls m) y = row at *
                have HRR := hx hrw
                clear hrw
                have HC8 := hx hc8
                have HB8 := hx hb8
                clear hc8 hb8
                have es := HBS.out.cell (usd_at 40 (xsn L L.length) y hy40)
                have fs := HBS.out.free y
                rcases hry with rfl | rfl
                all_goals
                  go_upto_region 25 with fail
                  by_cases hmem : (y : Int) ∈ xsn L L.length
                  · rw [decide_eq_true hmem] at es
                    clear hmem
                    go_wp2_with fail
                    go_roundw
                    case rel => exact ⟨q + 1, u, L, by omega, by go_num, rfl, HOW.out, HBS.out, HWL.out, HBNS.out, by have := HLQ.out; omega, HK.out⟩
                    case measure => simp [intOf] <;> omega
                  · rw [decide_eq_false hmem] at es
                    have HM2 := hx hmem
                    clear hmem
                    have HK1 := hx (show Kept [] w8 (wr.setCell ⟨gs, y, none⟩ (.bool true)) from HK.out.setCell (.inr (by have := HGE.out; simp; omega)) _)
                    have HOW1 := hx (own_keptB HOW.out ((Kept.refl [gs] wr).setCell (p := ⟨gs, y, none⟩) (.inl (by simp)) (.bool true)) (fun b hb => by rw [List.mem_singleton] at hb; omega))
                    have HBS1 := hx (show Blk (wr.setCell ⟨gs, y, none⟩ (.bool true)) gs (usd 40 (xsn L L.length ++ [(y : Int)])) 58 by
                      rw [← usd_set 40 (xsn L L.length) y hy40]
                      exact HBS.out.set y _)
                    go_upto_region 27 with fail
                    clear es fs
                    generalize wr.setCell ⟨gs, y, none⟩ (.bool true) = wq at *
                    have g8 := kept_cell HK1.out HC8.out
                    have hL100 : L.length ≤ 60 := by have := HLQ.out; omega
                    have HBE := hx (show gs + 1 ≤ wq.heap.size by have := HBS1.out.lt; omega)
                    have H1C := hx (show ∀ v ∈ [Value.int .i64 (y : Int), Value.slice ai row.length ci], v.oneCell' = true by
                      intro v hv
                      simp only [List.mem_cons, List.not_mem_nil, or_false] at hv
                      rcases hv with rfl | rfl <;> rfl)
                    have HBA := hx (fun o => show gs + 1 ≤ (wq.alloc o).heap.size by have := HBE.out; simp; omega)
                    have HKA := hx (fun o w9 (hg9 : (wq.alloc o).grownBy w9 u.ownBlock) => (HK1.out.alloc o).grown hg9 (fun q hq => .inr (by have h := (HOW1.out.lt q hq).1; have := HGE.out; omega)))
                    have HBA2 := hx (fun o w9 (hg9 : (wq.alloc o).grownBy w9 u.ownBlock) => grown_blk hg9 (HBS1.out.alloc o) (own_ne (World.ownsRow.alloc HOW1.out o) (HBS1.out.alloc o) (by decide)))
                    go_wp2_with (at_builtin; refine wpList_app rfl (.tmp 137) (.tmp 144) 45 rfl (gs + 1) 47 (.agg #[.int .i64 0, .slice none 0 0]) 2 32 infoShd Try.underlying45 rfl (by omega) u L.length (shc L) rfl (World.ownsRow.alloc HOW1.out _) (some ⟨_, 0, none⟩) 1 1 [.int .i64 (y : Int), .slice ai row.length ci] rfl rfl (by simp) (by omega) (blk_news (Blk.new _ [.int .i64 (y : Int), .slice ai row.length ci] 47)) H1C.out (by unfold maxLen; omega) (by omega) (HBA.out _) ?_; intro u2 w9 ho9 hg9; have HK9 := hx (HKA.out _ _ hg9); have HBS9 := hx (HBA2.out _ _ hg9); have HO9 := hx ho9; clear ho9 hg9)
                    go_wp2
                    go_roundw
                    case rel =>
                      refine ⟨q + 1, u2, L ++ [⟨(y : Int), ai, ci, row⟩], by omega, by go_num, rfl, own_pushS (s := ⟨(y : Int), ai, ci, row⟩) HO9.out, ?_, ⟨good_push HWL.out.good ⟨by simp, ?_⟩ HM2.out, ?_⟩, ?_, ?_, HK9.out⟩
                      · rw [xsn_all]
                        exact HBS9.out
                      · rw [HNE.out]
                        show (y : Int) < (N : Int)
                        omega
                      · intro s hs
                        rw [List.mem_append, List.mem_singleton] at hs
                        rcases hs with hs | rfl
                        · exact HWL.out.row s hs
                        · exact HROW.out
                      · intro s hs
                        rw [List.mem_append, List.mem_singleton] at hs
                        rcases hs with hs | rfl
                        · exact HBNS.out s hs
                        · exact HB8.out
                      · rw [List.length_append, List.length_singleton]
                        have := HLQ.out
                        omega
                    case measure => simp [intOf] <;> omega
              · obtain rfl : q = kn := by omega
                obtain ⟨a9, c9, hv9, _, hsh⟩ := sh_form HOW.out HBNS.out HK.out
                subst hv9
                have HSH := hx hsh
                have CDR := hx (CD8.out.kept hk)
                have KR := hx (K8.out.trans0 hk)
                have hL60 : L.length ≤ 1000 := by have := HLQ.out; omega
                have hL60i : (L.length : Int) ≤ 1000 := by omega
                clear hsh hk HK
                by_cases hfew : L.length < i
                · have HDB := hx (dec_bad _ g gr i m c9 63 R a9 L wr CDR.out HSM.out.1 HKM.out HSH.out hL60 (.inr (.inl ⟨HWL.out.good, hfew, rfl⟩)) (by omega))
                  have hfi : (L.length : Int) < (i : Int) := by omega
                  go_wp2_with fail
                  refine HDB.out.mono ?_
                  rintro e w9 ⟨rfl, hk9⟩
                  have K9 := hx (KR.out.trans0 hk9)
                  have y0 := kept_cell hk9 x0
                  clear hk9 x0 x2
                  go_wp2_with fail
                  try go_ret
                  exact ⟨rfl, K9.out⟩
                · have hfi : ¬ (L.length : Int) < (i : Int) := by omega
                  have hle : i ≤ L.length := by omega
                  obtain ⟨hE9, hn9, hd9, hf9⟩ := HWL.out.all HRW.out HKM.out HM.out HSM.out.1 hle HN.out
                  have HO9 := hx (fun s (hs : s ∈ L) => show Oct s.l by
                    rw [HWL.out.row s hs]
                    refine (mulM_mt HRW.out.mt.rows HM.out).rowOct ?_
                    have := good_bound HWL.out.good s hs
                    omega)
                  have HDG := hx (dec_good _ g gr i m c9 n R a9 L wr CDR.out HSM.out.1 HKM.out HSH.out hL60 HO9.out HWL.out.good hle hE9 hn9)
                  have HFG := hx (fun w9 (hk : Kept [] wr w9) => fits_good _ g gr i m c9 n R a9 L w9 (CDR.out.kept hk) HSM.out.1 HKM.out (HSH.out.kept hk) hL60 HO9.out HWL.out.good hle hE9 hn9)
                  rw [hd9] at HDG
                  have HFB := hx hf9
                  clear hE9 hn9 hd9 hf9
                  go_wp2_with fail
                  refine HDG.out.mono ?_
                  rintro e w9 ⟨ad, rfl, hcd, hk9⟩
                  have K9 := hx (KR.out.trans0 hk9)
                  have KQ := hx hk9
                  have HCD9 := hx hcd
                  have HF9 := hx (HFG.out w9 hk9)
                  have y0 := kept_cell hk9 x0
                  clear hk9 x0 hcd HDG HFG
                  go_wp2_with fail
                  refine HF9.out.mono ?_
                  rintro e wA ⟨bb, rfl, hbb, hkA⟩
                  have hb1 : bb = true := hbb.2 HFB.out
                  subst hb1
                  have KA := hx (K9.out.trans0 hkA)
                  have z2 := kept_cell (KQ.out.trans0 hkA) x2
                  have HSA := hx (same_any ad (some ⟨b, o, none⟩) i c2 ls wA (HCD9.out.kept hkA) (HC.out.kept KA.out) (by rw [HLEN.out]; have := HSM.out; omega))
                  rw [HLEN.out] at HSA
                  clear hbb hkA y0 x2 HF9
                  go_wp2_with fail
                  refine HSA.out.mono ?_
                  rintro e wB ⟨rfl, hkB⟩
                  have KB := hx (KA.out.trans0 hkB)
                  clear hkB
                  go_wp2_with fail
                  try go_ret
                  exact ⟨rfl, KB.out⟩
      · go_wp2_with fail
        try go_ret
        exact ⟨rfl, K1.out⟩
    · go_wp2_with fail
      try go_ret
      exact ⟨rfl, K1.out⟩
  · have hor : ((len : Int) != ki) = true ∨ ((len : Int) != ki) = false ∧ 60 < (kn : Int) := by
      by_cases h : (len : Int) = ki
      · right
        exact ⟨by rw [h]; simp, by omega⟩
      · left
        exact bne_iff_ne.2 h
    clear hgo
    rcases hor with hne | ⟨hne, h60⟩
    all_goals
      go_wp2_with fail
      refine (small_any ki mi w1).mono ?_
      rintro e w2 ⟨hs, rfl⟩
      rcases hs with ⟨_, rfl⟩ | ⟨_, rfl⟩
      · go_wp2_with fail
        refine HFW.out.mono ?_
        rintro e w2 ⟨hf, rfl⟩
        rcases hf with ⟨_, rfl⟩ | rfl
        all_goals
          go_wp2_with fail
          try go_ret
          exact ⟨rfl, K1.out⟩
      · go_wp2_with fail
        try go_ret
        exact ⟨rfl, K1.out⟩
end Go.Proofs.Ytjgnngnknhkpmaa
