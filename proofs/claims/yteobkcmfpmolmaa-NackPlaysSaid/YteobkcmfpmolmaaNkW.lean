/- nack: the program's list and its plain law: each call, and what the document's answer is then. -/
import Derived.Test.YteobkcmfpmolmaaNkF
import Derived.Test.YteobkcmfpmolmaaNkL
import Derived.Test.YteobkcmfpmolmaaNkT
import Derived.Test.YteobkcmfpmolmaaNkU
namespace Go.Proofs.Yteobkcmfpmolmaa
open Go Go.RowKit
/-- The program's list, made since w0, in plain words. -/
structure Pn (w0 w : World) (p q mb n : Nat) (v : Value) (room now no asked full : Int) (h s : List En) (f : Int → Int) (N : Nat) : Prop where
  k : Kept [] w0 w
  hp : w0.heap.size ≤ p
  hq : w0.heap.size ≤ q
  hm : w0.heap.size ≤ mb
  hv : ∀ g, v.ownBlock = some g → w0.heap.size ≤ g
  nk : Nk w p q mb n v room now no asked full h f
  tp : Tp h s now no
  hr : (s.length : Int) ≤ room
  r64 : room ≤ 64
  wf : ∀ x, x ∈ s → (Lit.int .u32 x.key).wf = true
  tr : ∀ j, 0 ≤ f j ∧ f j ≤ 5
  a0 : 0 ≤ asked ∧ 0 ≤ full
  bd : now ≤ N ∧ no ≤ N ∧ asked ≤ N ∧ full ≤ N ∧ n ≤ N
variable {w0 w w1 : World} {p q mb n n' : Nat} {v v' : Value} {room now no asked full now' no' asked' full' : Int} {h s h' s' : List En} {f f' : Int → Int} {N M : Nat}
theorem Pn.kept (d : Pn w0 w p q mb n v room now no asked full h s f N) (hk : Kept [] w w1) : Pn w0 w1 p q mb n v room now no asked full h s f N :=
  ⟨d.k.trans0 hk, d.hp, d.hq, d.hm, d.hv, d.nk.kept hk, d.tp, d.hr, d.r64, d.wf, d.tr, d.a0, d.bd⟩
theorem Pn.mono (d : Pn w0 w p q mb n v room now no asked full h s f N) (hM : N ≤ M) : Pn w0 w p q mb n v room now no asked full h s f M :=
  ⟨d.k, d.hp, d.hq, d.hm, d.hv, d.nk, d.tp, d.hr, d.r64, d.wf, d.tr, d.a0, by have := d.bd; omega⟩
theorem Pn.step (d : Pn w0 w p q mb n v room now no asked full h s f N) (hk : KeptK w w1 p q mb v v') (nk : Nk w1 p q mb n' v' room now' no' asked' full' h' f') (tp : Tp h' s' now' no') (hr : (s'.length : Int) ≤ room) (wf : ∀ x, x ∈ s' → (Lit.int .u32 x.key).wf = true) (tr : ∀ j, 0 ≤ f' j ∧ f' j ≤ 5) (a0 : 0 ≤ asked' ∧ 0 ≤ full') (bd : now' ≤ M ∧ no' ≤ M ∧ asked' ≤ M ∧ full' ≤ M ∧ n' ≤ M) :
    Pn w0 w1 p q mb n' v' room now' no' asked' full' h' s' f' M :=
  ⟨d.k.trans hk.1 (fun _ h => h) (fun x hx => by
    simp only [List.mem_cons, Option.mem_toList] at hx
    rcases hx with rfl | rfl | rfl | hx
    · exact .inr d.hp
    · exact .inr d.hq
    · exact .inr d.hm
    · exact .inr (d.hv x hx)), d.hp, d.hq, d.hm, fun g hg => by
    rcases hk.2 with e | e | ⟨g', e, hg'⟩
    · exact d.hv g (by rw [← e]; exact hg)
    · rw [e] at hg; simp at hg
    · rw [e] at hg
      simp at hg
      have := d.k.size
      omega, nk, tp, hr, d.r64, wf, tr, a0, bd⟩
theorem mp_noblk {w : World} {b n : Nat} {f : Int → Int} (h : Mp w b n f) {xs : List Value} {T : TypeId} : ¬ Blk w b xs T := fun hB => by
  obtain ⟨D, ⟨es, clock, hb, _⟩, _⟩ := h.ex
  unfold Blk at hB
  rw [hb] at hB
  cases hB
/-- Blocks of other types stay, whatever the program's list does. -/
theorem nk_noT (d : Nk w p q mb n v room now no asked full h f) {T : TypeId} (h1 : nackT ≠ T) (h2 : 81 ≠ T) (h3 : 78 ≠ T) : ∀ b, b ∈ (p :: q :: mb :: v.ownBlock.toList) → ∀ xs, ¬ Blk w b xs T := fun b hb xs hB => by
  simp only [List.mem_cons] at hb
  rcases hb with rfl | rfl | rfl | hb
  · exact blk_neT d.hp hB h1
  · exact blk_neT d.ts.hq hB h2
  · exact mp_noblk d.mp hB
  · exact own_noT d.ts.own h3 b hb xs hB
theorem blk_nk (d : Nk w p q mb n v room now no asked full h f) (hk : KeptK w w1 p q mb v v') {b : Nat} {xs : List Value} {T : TypeId} (hB : Blk w b xs T) (h1 : nackT ≠ T) (h2 : 81 ≠ T) (h3 : 78 ≠ T) : Blk w1 b xs T :=
  hk.1.blk hB (fun hm => nk_noT d h1 h2 h3 b hm xs hB)
theorem l3_nk (d : Nk w p q mb n v room now no asked full h f) (hk : KeptK w w1 p q mb v v') {a : Option Addr} {l : List It} (hl : L3 w 56 a l) : L3 w1 56 a l :=
  hl.frame hk.1 (nk_noT d (by decide) (by decide) (by decide))
theorem ikt_nk (d : Nk w p q mb n v room now no asked full h f) (hk : KeptK w w1 p q mb v v') {a : Option Addr} {l : List Int} (hl : IkT w a l) : IkT w1 a l := by
  have hno := nk_noT d (T := 31) (by decide) (by decide) (by decide)
  have hne : l ≠ [] → ∃ g off xs, a = some ⟨g, off, none⟩ ∧ Blk w g xs 31 ∧ g ∉ (p :: q :: mb :: v.ownBlock.toList) := fun hl0 => by
    obtain ⟨g, off, xs, h1, h2⟩ := hl.blk hl0
    exact ⟨g, off, xs, h1, h2, fun hc => hno g hc xs h2⟩
  refine ⟨?_, fun hl0 => ?_⟩
  · by_cases hl0 : l = []
    · subst hl0
      exact fun i hi => by simp at hi
    · obtain ⟨g', off', xs, h4, _, h6⟩ := hne hl0
      refine hl.cell.frame hk.1 (fun g off ha hm => ?_)
      rw [ha] at h4
      simp only [Option.some.injEq, Addr.mk.injEq, and_true] at h4
      obtain ⟨rfl, rfl⟩ := h4
      exact h6 hm
  · obtain ⟨g, off, xs, h1, h2, h3⟩ := hne hl0
    exact ⟨g, off, xs, h1, hk.1.blk h2 h3⟩
theorem has_map {h s : List En} (hp : s.Perm h) (k now : Int) (f : Int → Int) : hasN k (s.map (itN now f)) = (leftV now k h).2 := by
  unfold hasN leftV
  rw [List.any_map]
  cases e : keyAt k h with
  | none =>
    simp only
    rw [Bool.eq_false_iff]
    intro hc
    rw [List.any_eq_true] at hc
    obtain ⟨x, hx, h2⟩ := hc
    simp only [Function.comp, itN, beq_iff_eq] at h2
    exact keyAt_none e x (hp.mem_iff.1 hx) h2
  | some i =>
    simp only
    obtain ⟨h1, h2⟩ := keyAt_some e
    rw [List.any_eq_true]
    refine ⟨h.getD i en0, hp.mem_iff.2 (by rw [← List.getElem_eq_getD (h := h1)]; exact List.getElem_mem h1), ?_⟩
    simp only [Function.comp, itN, beq_iff_eq]
    exact h2
theorem has_iff {h s : List En} (hp : s.Perm h) (k now : Int) (f : Int → Int) : hasN k (s.map (itN now f)) = true ↔ keyAt k h ≠ none := by
  rw [has_map hp]
  unfold leftV
  cases keyAt k h <;> simp
theorem filt_two {α : Type} (p : α → Bool) (l : List α) : (l.filter p).length + (l.filter (fun x => !p x)).length = l.length := by
  induction l with
  | nil => rfl
  | cons x l ih => cases h : p x <;> simp [h] <;> omega
section
variable (d : Pn w0 w p q mb n v room now no asked full h s f N) (hN : N ≤ 1000000)
include d hN
theorem Pn.small : h.length ≤ 64 ∧ 0 ≤ now ∧ now ≤ 1099511627776 ∧ 0 ≤ no ∧ no ≤ 1000000 ∧ n < maxLen ∧ (∀ x, x ∈ h → now < x.due ∧ x.due ≤ 2199023255552) := by
  have h1 := d.tp.len
  have h2 := d.hr
  have h3 := d.r64
  have h4 := d.bd
  refine ⟨by omega, d.tp.now0, d.tp.now1, d.tp.no0, by omega, by unfold maxLen; omega, fun x hx => d.tp.due x ((d.tp.mem x).2 hx)⟩
theorem pwait_any (k t : Int) (hk : (Lit.int .u32 k).wf = true) : Calls Try.prog 9 #[.pointer (some ⟨p, 0, none⟩), .int .u32 k, .int .i64 t] w fun e w' => e = .returned (.tuple #[]) ∧ ∃ v' no' full' h' s' f' n', KeptK w w' p q mb v v' ∧ Pn w0 w' p q mb n' v' room now no' asked full' h' s' f' (N + 64) ∧ waitR room full (s.map (itN now f)) k t = (s'.map (itN now f'), full') ∧ no' ≤ no + 1 := by
  obtain ⟨s1, s2, s3, s4, s5, s6, s7⟩ := d.small hN
  have hb := d.bd
  refine (nwait_any k t w d.nk (by omega) s2 s3 s7 s4 (by omega) d.a0.2 (by omega) s6 hk).mono ?_
  rintro e w' ⟨rfl, v', no', full', h', n', f', hkk, hnk, hn', hcase⟩
  have hlen := d.tp.len
  have hht := heldN_in t
  rcases hcase with ⟨i, hi, rfl, rfl, rfl, rfl⟩ | ⟨hi, hr, rfl, rfl, rfl, rfl⟩ | ⟨hi, hr, rfl, rfl, rfl, rfl⟩
  · refine ⟨rfl, v', no', full', h', s, f', n', hkk, d.step hkk hnk d.tp d.hr d.wf d.tr d.a0 (by omega), ?_, by omega⟩
    unfold waitR
    rw [if_pos ((has_iff d.tp.perm k now f').2 (by rw [hi]; simp))]
  · refine ⟨rfl, v', no', full + 1, h', s, f', n', hkk, d.step hkk hnk d.tp d.hr d.wf d.tr ⟨d.a0.1, by have := d.a0.2; omega⟩ (by omega), ?_, by omega⟩
    unfold waitR
    rw [if_neg (fun hc => (has_iff d.tp.perm k now f').1 hc hi), if_pos (by simp; omega)]
  · refine ⟨rfl, v', no + 1, full', _, insE ⟨k, now + heldN t, no + 1⟩ s, _, n', hkk, d.step hkk hnk (d.tp.add (keyAt_none hi) (by omega) (by omega)) ?_ ?_ ?_ d.a0 (by omega), ?_, by omega⟩
    · rw [ins_filter]; simp; omega
    · intro x hx
      rcases List.mem_cons.1 ((ins_perm _ _).mem_iff.1 hx) with rfl | hx
      · exact hk
      · exact d.wf x hx
    · intro j
      by_cases e : j = k
      · simp [e]
      · simp [e, d.tr j]
    · unfold waitR
      rw [if_neg (fun hc => (has_iff d.tp.perm k now f).1 hc hi), if_neg (by simp; omega)]
      have e1 : s.map (itN now f) = s.map (itN now (fun j => if j = k then 0 else f j)) := it_congr now (fun x hx => by
        have hne := keyAt_none hi x ((d.tp.mem x).1 hx)
        simp only [if_neg hne])
      have e2 : ((k, heldN t, 0) : It) = itN now (fun j => if j = k then 0 else f j) ⟨k, now + heldN t, no + 1⟩ := by
        simp only [itN, if_true, Prod.mk.injEq, true_and, and_true]
        omega
      rw [e1, e2, put_map]
theorem pstop_any (k : Int) (hk : (Lit.int .u32 k).wf = true) : Calls Try.prog 13 #[.pointer (some ⟨p, 0, none⟩), .int .u32 k] w fun e w' => e = .returned (.tuple #[]) ∧ ∃ v' f', KeptK w w' p q mb v v' ∧ Pn w0 w' p q mb n v' room now no asked full (h.filter (notKey k)) (s.filter (notKey k)) f' (N + 64) ∧ stopN k (s.map (itN now f)) = (s.filter (notKey k)).map (itN now f') := by
  obtain ⟨s1, s2, s3, s4, s5, s6, s7⟩ := d.small hN
  have hb := d.bd
  refine (nstop_any k w d.nk (by omega) hk).mono ?_
  rintro e w' ⟨rfl, v', h', hkk, hnk, hcase⟩
  have hh := stop_filter d.tp.hkeys hcase
  subst hh
  refine ⟨rfl, v', _, hkk, d.step hkk hnk (d.tp.filter _) ?_ (fun x hx => d.wf x (List.mem_filter.1 hx).1) ?_ d.a0 (by omega), ?_⟩
  · have h1 := List.length_filter_le (notKey k) s
    have h2 := d.hr
    omega
  · intro j
    by_cases e : j = k
    · simp [e]
    · simp [e, d.tr j]
  · rw [stop_map]
    refine it_congr now (fun x hx => ?_)
    have h2 := (List.mem_filter.1 hx).2
    have hne : x.key ≠ k := by simpa [notKey] using h2
    simp only [if_neg hne]
theorem pbelow_any (k : Int) (hk : (Lit.int .u32 k).wf = true) : Calls Try.prog 18 #[.pointer (some ⟨p, 0, none⟩), .int .u32 k] w fun e w' => ∃ v' h' s' f', e = .returned (.int .i64 ((s.length : Int) - (s'.length : Int))) ∧ KeptK w w' p q mb v v' ∧ Pn w0 w' p q mb n v' room now no asked full h' s' f' (N + 64) ∧ belowR k (s.map (itN now f)) = s'.map (itN now f') := by
  obtain ⟨s1, s2, s3, s4, s5, s6, s7⟩ := d.small hN
  have hb := d.bd
  refine (nbelow_any k w d.nk d.tp (by omega) d.wf hk).mono ?_
  rintro e w' ⟨rfl, v', hkk, hnk⟩
  rw [stopsN_gone d.tp.perm] at hnk
  have hlf := List.length_filter_le (fun x => !isB k x) s
  refine ⟨v', _, s.filter (fun x => !isB k x), _, ?_, hkk, d.step hkk hnk (d.tp.filter _) (by have h2 := d.hr; omega) (fun x hx => d.wf x (List.mem_filter.1 hx).1) (stopsF_in _ _ d.tr) d.a0 (by omega), ?_⟩
  · have h1 := filt_two (isB k) s
    unfold goneN
    rw [List.length_map]
    congr 2
    omega
  · unfold belowR
    rw [List.filter_map]
    have e1 : s.filter ((fun y : It => decide (0 ≤ behV y.1 k)) ∘ itN now f) = s.filter (fun x => !isB k x) := List.filter_congr (fun x _ => by
      simp only [Function.comp, itN, isB]
      by_cases hx : behV x.key k < 0
      · have h2 : ¬ 0 ≤ behV x.key k := by omega
        simp [hx, h2]
      · have h2 : 0 ≤ behV x.key k := by omega
        simp [hx, h2])
    rw [e1]
    refine it_congr now (fun x hx => ?_)
    have h2 := (List.mem_filter.1 hx).2
    refine (stopsF_other _ f x.key (fun hm => ?_)).symm
    unfold goneN at hm
    rw [List.mem_map] at hm
    obtain ⟨y, hy, e⟩ := hm
    have h3 := (List.mem_filter.1 hy).2
    unfold isB at h2 h3
    rw [e] at h3
    rw [h3] at h2
    simp at h2
theorem ptick_any (t : Int) : Calls Try.prog 11 #[.pointer (some ⟨p, 0, none⟩), .int .i64 t] w fun e w' => ∃ v' no' h' s' f' n' a c, e = .returned (.slice a (toldN (s.map (itN now f))).length c) ∧ KeptK w w' p q mb v v' ∧ Pn w0 w' p q mb n' v' room (now + 1) no' (asked + (toldN (s.map (itN now f))).length) full h' s' f' (N + 64) ∧ Ik w' a ((toldN (s.map (itN now f))).map (·.1)) ∧ putsN t (toldN (s.map (itN now f))) (restN (s.map (itN now f))) = s'.map (itN (now + 1) f') ∧ (∀ g off, a = some ⟨g, off, none⟩ → w.heap.size ≤ g) ∧ (s'.map (·.key)).Perm (s.map (·.key)) ∧
      (s', f') = ((sortN t (now + 1) ((s.take (dueN (now + 1) s)).map (·.key)) (s.drop (dueN (now + 1) s), f, no)).1, (manyN t (now + 1) ((s.take (dueN (now + 1) s)).map (·.key)) (s.drop (dueN (now + 1) s), f, no)).2.1) ∧ (toldN (s.map (itN now f))).map (·.1) = (s.take (dueN (now + 1) s)).map (·.key) := by
  obtain ⟨s1, s2, s3, s4, s5, s6, s7⟩ := d.small hN
  have hb := d.bd
  have ha := d.a0
  have hhr := d.hr
  have hlen := d.tp.len
  refine (ntick_any t s w d.nk d.tp s1 (by omega) d.wf d.tr (by omega) d.a0.1 (by omega) (by omega) (by omega)).mono ?_
  have e1 : nowT now 1 = now + 1 := by unfold nowT; omega
  have hlaw := tick_law (f := f) (t := t) d.tp (by omega)
  have htk := told_map (now := now) (f := f) d.tp.sorted
  have hmk := many_keys t (now + 1) s (dueN (now + 1) s) f no
  have hmt := manyN_tries t (now + 1) ((s.take (dueN (now + 1) s)).map (·.key)) (s.drop (dueN (now + 1) s), f, no) d.tr
  have hmn := manyN_no t (now + 1) ((s.take (dueN (now + 1) s)).map (·.key)) (s.drop (dueN (now + 1) s), f, no)
  have hdl := dueN_le (now + 1) s
  have htl : (toldN (s.map (itN now f))).length = dueN (now + 1) s := by rw [htk]; simp; omega
  rintro e w' ⟨dd, l, X, hd, hl, hX, v', n', a, c, rfl, hdc, hkk, hn', hnk, hik, hnew⟩
  rw [e1] at hd hX hnk
  obtain ⟨ht1, ht2, ht3⟩ := hlaw
  rw [← hd] at ht1 ht2 ht3 hmk hmt hmn htl hdl
  rw [← hl] at ht1 ht2 ht3 hmk hmt hmn
  rw [← hX] at ht1 ht2 hmk hmt hmn
  have hll : l.length = dd := by rw [hl]; simp; omega
  have hsp : ((sortN t (now + 1) l (s.drop dd, f, no)).1.map (·.key)).Perm (s.map (·.key)) := (ht1.perm.map _).trans hmk
  refine ⟨v', X.2.2, X.1, (sortN t (now + 1) l (s.drop dd, f, no)).1, X.2.1, n', a, c, by rw [htl], hkk, d.step hkk (by rw [htl]; exact hnk) ht1 ?_ ?_ hmt ?_ ?_, by rw [ht3]; exact hik, ht2, hnew, hsp, ?_, ?_⟩
  · have h1 := hsp.length_eq
    simp only [List.length_map] at h1
    omega
  · intro x hx
    have hm : x.key ∈ s.map (·.key) := hsp.mem_iff.1 (List.mem_map_of_mem hx)
    rw [List.mem_map] at hm
    obtain ⟨y, hy, e⟩ := hm
    rw [← e]
    exact d.wf y hy
  · exact ⟨by omega, ha.2⟩
  · simp only at hmn
    omega
  · rw [← hd, ← hl, ← hX]
  · rw [← hd, ← hl]; exact ht3
theorem phas_any (k : Int) : Calls Try.prog 10 #[.pointer (some ⟨p, 0, none⟩), .int .u32 k] w fun e w' => e = .returned (.bool (hasN k (s.map (itN now f)))) ∧ Kept [] w w' := by
  obtain ⟨s1, s2, s3, s4, s5, s6, s7⟩ := d.small hN
  rw [has_map d.tp.perm]
  exact nhas_any k w d.nk (by omega) s2 s3 s7
end
theorem pnew_any (room : Int) (w : World) (h1 : 1 ≤ room) (h2 : room ≤ 64) :
    Calls Try.prog 14 #[.int .i64 room] w fun e w' => ∃ p q mb, e = .returned (.tuple #[.pointer (some ⟨p, 0, none⟩), .int .i64 0]) ∧ Pn w w' p q mb 0 (.slice none 0 0) room 0 0 0 0 [] [] (fun _ => 0) 0 :=
  (nnew_any room w h1 h2).mono (by
    rintro e w' ⟨p, q, mb, rfl, hnk, hk, hp, hq, hm⟩
    exact ⟨p, q, mb, rfl, ⟨hk, hp, hq, hm, by simp [Value.ownBlock], hnk, Tp.nil, by simp; omega, h2, by simp, by simp, by simp, by simp⟩⟩)
end Go.Proofs.Yteobkcmfpmolmaa
