/- nack: what is waited for is told again and again: the plain law. -/
import Derived.Test.YteobkcmfpmolmaaNkW
namespace Go.Proofs.Yteobkcmfpmolmaa
theorem sort_mem (t now : Int) (l : List Int) {x : En} : ∀ (s : List En) (f : Int → Int) (no : Int), x ∈ s → x ∈ (sortN t now l (s, f, no)).1 := by
  induction l with
  | nil => intro s f no h; exact h
  | cons k l ih => intro s f no h; exact ih _ _ _ ((ins_perm _ s).mem_iff.2 (List.mem_cons_of_mem _ h))
theorem many_f_other (t now k : Int) (l : List Int) : ∀ (h : List En) (f : Int → Int) (no : Int), k ∉ l → (manyN t now l (h, f, no)).2.1 k = f k := by
  induction l with
  | nil => intro h f no _; rfl
  | cons y l ih =>
    intro h f no hk
    simp only [List.mem_cons, not_or] at hk
    have h1 := ih (h ++ [⟨y, now + gapN t (tryN f y), no + 1⟩]) (fun j => if j = y then tryN f y else f j) (no + 1) hk.2
    have h2 : (manyN t now (y :: l) (h, f, no)).2.1 k = (manyN t now l (h ++ [⟨y, now + gapN t (tryN f y), no + 1⟩], fun j => if j = y then tryN f y else f j, no + 1)).2.1 k := rfl
    rw [h2, h1]
    simp only [if_neg hk.1]
theorem sort_new (t now k : Int) (l : List Int) : ∀ (h s : List En) (f : Int → Int) (no : Int), l.Nodup → k ∈ l →
    (∃ x, x ∈ (sortN t now l (s, f, no)).1 ∧ x.key = k ∧ x.due = now + gapN t (tryN f k)) ∧ (manyN t now l (h, f, no)).2.1 k = tryN f k := by
  induction l with
  | nil => intro h s f no _ hk; simp at hk
  | cons y l ih =>
    intro h s f no hn hk
    rw [List.nodup_cons] at hn
    by_cases e : k = y
    · subst e
      refine ⟨⟨⟨k, now + gapN t (tryN f k), no + 1⟩, ?_, rfl, rfl⟩, ?_⟩
      · exact sort_mem t now l _ _ _ ((ins_perm _ s).mem_iff.2 List.mem_cons_self)
      · have h1 := many_f_other t now k l (h ++ [⟨k, now + gapN t (tryN f k), no + 1⟩]) (fun j => if j = k then tryN f k else f j) (no + 1) hn.1
        have h2 : (manyN t now (k :: l) (h, f, no)).2.1 k = (manyN t now l (h ++ [⟨k, now + gapN t (tryN f k), no + 1⟩], fun j => if j = k then tryN f k else f j, no + 1)).2.1 k := rfl
        rw [h2, h1]
        simp
    · have hk2 : k ∈ l := by
        rcases List.mem_cons.1 hk with h1 | h1
        · exact absurd h1 e
        · exact h1
      have h1 := ih (h ++ [⟨y, now + gapN t (tryN f y), no + 1⟩]) (insE ⟨y, now + gapN t (tryN f y), no + 1⟩ s) (fun j => if j = y then tryN f y else f j) (no + 1) hn.2 hk2
      have h3 : tryN (fun j => if j = y then tryN f y else f j) k = tryN f k := by simp only [tryN, if_neg e]
      rw [h3] at h1
      exact h1
def gOf (t m : Int) : Int := if m = 0 then t else gapN t m
theorem gOf_in {t m : Int} (h1 : 1 ≤ t) (h2 : t ≤ 4) (m0 : 0 ≤ m) (m5 : m ≤ 5) : 1 ≤ gOf t m ∧ gOf t m ≤ 32 * t ∧ gOf t m ≤ gapN t (min (m + 1) 5) := by
  have hm : m = 0 ∨ m = 1 ∨ m = 2 ∨ m = 3 ∨ m = 4 ∨ m = 5 := by omega
  have ht : t = 1 ∨ t = 2 ∨ t = 3 ∨ t = 4 := by omega
  rcases ht with rfl | rfl | rfl | rfl <;> rcases hm with rfl | rfl | rfl | rfl | rfl | rfl <;> decide
/-- Where the key stands behind i ticks. -/
structure Ag (t T0 k : Int) (s : List En) (f : Int → Int) (now i last gap : Int) : Prop where
  at_ : ∃ x, x ∈ s ∧ x.key = k ∧ x.due = T0 + last + gOf t (f k)
  now_ : now = T0 + i
  l0 : 0 ≤ last
  l1 : last ≤ i
  g0 : 0 ≤ gap
  g1 : gap ≤ gOf t (f k)
  z : f k = 0 → last = 0
  nz : f k ≠ 0 → 1 ≤ last
theorem mem_put (x : It) (l : List It) : x ∈ putN x l := by
  induction l with
  | nil => simp [putN]
  | cons y l ih => unfold putN; split <;> simp [ih]
theorem Ag.start {s : List En} {f : Int → Int} {now k t : Int} {l : List It} (ht1 : 1 ≤ t) (ht2 : t ≤ 4) (h : s.map (itN now f) = putN (k, heldN t, 0) l) : Ag t now k s f now 0 0 0 := by
  have hm := mem_put (k, heldN t, 0) l
  rw [← h, List.mem_map] at hm
  obtain ⟨x, hx, e⟩ := hm
  simp only [itN, Prod.mk.injEq] at e
  obtain ⟨e1, e2, e3⟩ := e
  rw [e1] at e3
  have hh : heldN t = t := by unfold heldN; omega
  refine ⟨⟨x, hx, e1, ?_⟩, by omega, by omega, by omega, by omega, ?_, fun _ => rfl, fun hc => absurd e3 hc⟩
  · rw [e3]; unfold gOf; rw [if_pos rfl]; omega
  · rw [e3]; unfold gOf; rw [if_pos rfl]; omega
/-- One tick more. -/
theorem Ag.tick {h s : List En} {f : Int → Int} {now no T0 k t i last gap : Int} (a : Ag t T0 k s f now i last gap) (hp : Tp h s now no) (hf : ∀ j, 0 ≤ f j ∧ f j ≤ 5) (ht1 : 1 ≤ t) (ht2 : t ≤ 4) :
    let l := (s.take (dueN (now + 1) s)).map (·.key)
    let s' := (sortN t (now + 1) l (s.drop (dueN (now + 1) s), f, no)).1
    let f' := (manyN t (now + 1) l (s.drop (dueN (now + 1) s), f, no)).2.1
    (k ∈ l → gap ≤ i + 1 - last ∧ Ag t T0 k s' f' (now + 1) (i + 1) (i + 1) (i + 1 - last)) ∧ (k ∉ l → i + 1 - last ≤ 32 * t ∧ Ag t T0 k s' f' (now + 1) (i + 1) last gap) := by
  intro l s' f'
  obtain ⟨⟨x, hx, hxk, hxd⟩, a1, a2, a3, a4, a5, a6, a7⟩ := a
  have hd := hp.due x hx
  obtain ⟨ht, hdr⟩ := drop_due hp.sorted (n := dueN (now + 1) s) rfl
  have hkeys : (s.map (·.key)).Nodup := by
    rw [List.Nodup, List.pairwise_map]; exact hp.keys
  have esplit : s.map (·.key) = l ++ (s.drop (dueN (now + 1) s)).map (·.key) := by
    show s.map (·.key) = (s.take _).map (·.key) ++ (s.drop _).map (·.key)
    rw [← List.map_append, List.take_append_drop]
  rw [esplit, List.nodup_append] at hkeys
  have hfk := hf k
  have hg := gOf_in ht1 ht2 hfk.1 hfk.2
  refine ⟨fun hk => ?_, fun hk => ?_⟩
  · have hle : x.due ≤ now + 1 := by
      by_cases hc : x.due ≤ now + 1
      · exact hc
      · exfalso
        have h1 : x ∈ s.drop (dueN (now + 1) s) := by rw [hdr]; exact List.mem_filter.2 ⟨hx, by simp; omega⟩
        exact hkeys.2.2 k hk x.key (List.mem_map_of_mem h1) hxk.symm
    obtain ⟨⟨y, hy, hyk, hyd⟩, hfn⟩ := sort_new t (now + 1) k l (s.drop (dueN (now + 1) s)) (s.drop (dueN (now + 1) s)) f no hkeys.1 hk
    have htr : 1 ≤ tryN f k := by unfold tryN; omega
    have hgo : gOf t (f' k) = gapN t (tryN f k) := by
      show gOf t ((manyN t (now + 1) l (s.drop (dueN (now + 1) s), f, no)).2.1 k) = _
      rw [hfn]; unfold gOf; rw [if_neg (by omega)]
    have hgl : gOf t (f k) ≤ gapN t (tryN f k) := hg.2.2
    refine ⟨by omega, ⟨y, hy, hyk, by rw [hyd, hgo]; omega⟩, by omega, by omega, by omega, by omega, by rw [hgo]; omega, fun hc => ?_, fun _ => by omega⟩
    have : f' k = tryN f k := hfn
    omega
  · have hgt : ¬ x.due ≤ now + 1 := fun hc => by
      have h1 : x ∈ s.take (dueN (now + 1) s) := by rw [ht]; exact List.mem_filter.2 ⟨hx, by simpa using hc⟩
      exact hk (by rw [← hxk]; exact List.mem_map_of_mem h1)
    have h1 : x ∈ s.drop (dueN (now + 1) s) := by rw [hdr]; exact List.mem_filter.2 ⟨hx, by simp; omega⟩
    have hfo : f' k = f k := many_f_other t (now + 1) k l (s.drop (dueN (now + 1) s)) f no hk
    refine ⟨by omega, ⟨x, sort_mem t (now + 1) l _ _ _ h1, hxk, by rw [hfo]; exact hxd⟩, by omega, a2, by omega, a4, by rw [hfo]; exact a5, by rw [hfo]; exact a6, by rw [hfo]; exact a7⟩
theorem Ag.has {s : List En} {f : Int → Int} {now T0 k t i last gap : Int} (a : Ag t T0 k s f now i last gap) (n2 : Int) : hasN k (s.map (itN n2 f)) = true := by
  obtain ⟨x, hx, hk, _⟩ := a.at_
  unfold hasN
  rw [List.any_eq_true]
  exact ⟨itN n2 f x, List.mem_map_of_mem hx, by simp [itN, hk]⟩
theorem Ag.late {h s : List En} {f : Int → Int} {now no T0 k t i last gap : Int} (a : Ag t T0 k s f now i last gap) (hp : Tp h s now no) (ht2 : t ≤ 4) (hi : 4 ≤ i) : 0 < last := by
  by_cases h0 : f k = 0
  · obtain ⟨x, hx, _, hxd⟩ := a.at_
    have hd := hp.due x hx
    have h1 := a.z h0
    have h2 := a.now_
    rw [h0] at hxd
    unfold gOf at hxd
    rw [if_pos rfl] at hxd
    omega
  · have := a.nz h0
    omega
end Go.Proofs.Yteobkcmfpmolmaa
