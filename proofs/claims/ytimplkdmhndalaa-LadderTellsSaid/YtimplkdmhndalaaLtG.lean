/- slices.SortFunc at the timer's entries: they lie in order behind it. -/
import Derived.Test.YtimplkdmhndalaaLtB
import Derived.Test.YtimplkdmhndalaaShp
import Derived.Shelf.SlSortCmp.NoneTotal
namespace Go.Proofs.Ytimplkdmhndalaa
open Go Go.RowKit Go.Shelf Go.Sort
theorem ltOf_lt (x y : Ply) : ltOf cfP x y = true ↔ ltP x y := by unfold ltOf; rw [decide_eq_true_iff]; exact cfP_lt x y
theorem ltOf_not (x y : Ply) : ltOf cfP x y = false ↔ ¬ ltP x y := by rw [← ltOf_lt]; cases ltOf cfP x y <;> simp
theorem swoE : SWO (ltOf cfP) where
  irrefl x := by rw [ltOf_not]; exact ltP_irr x
  trans x y z h1 h2 := by rw [ltOf_lt] at *; exact ltP_trans h1 h2
  ntrans x y z h1 h2 := by rw [ltOf_not] at *; exact ltP_ntrans h1 h2
theorem cmpLaysE (blk off size : Nat) (w : World) : CmpLays Try.prog 23 #[] enc5 5 cfP blk off size w :=
  fun _ _ _ _ x y => order_any x y _
theorem flat_cel (h : List Ply) (t : Nat) (ht : t < h.length * 5) : (cel h)[t]? = some ((flatK enc5 5 h.toArray)[t]!) := by
  have h1 := cel_at h (t / 5) (by omega) (t % 5) (by omega)
  rw [show t / 5 * 5 + t % 5 = t by omega] at h1
  rw [h1, get_flatK enc5 5 h.toArray t (by simpa using ht)]
  have e : h.toArray[t / 5]! = h.getD (t / 5) pl0 := by simp [List.getD, show t / 5 < h.length by omega]
  rw [e]
  have h3 : t % 5 < (enc5 (h.getD (t / 5) pl0)).length := by show t % 5 < 5; omega
  rw [List.getElem?_eq_getElem h3, getElem!_pos (enc5 (h.getD (t / 5) pl0)) (t % 5) h3]
theorem holdsE {w : World} {base : Nat} {e : TypeId} {g n c : Nat} {h : List Ply} (ho : w.ownsRow base e 5 (.slice (some ⟨g, 0, none⟩) n c) n (cel h)) (hf : ∀ i, w.frozen? ⟨g, i, none⟩ = false) : HoldsK enc5 5 w g 0 h.toArray := by
  intro j hj
  simp only [size_flatK, List.size_toArray] at hj
  have hl := ho.1
  rw [cel_len] at hl
  refine ⟨?_, hf _⟩
  rw [Nat.zero_add, ho.cellAt j (by omega), flat_cel h j (by omega)]
  rfl
theorem putK_blk {w : World} {g : Nat} {xs : List Value} {T : TypeId} (hb : Blk w g xs T) (d : Array Ply) (q : Nat) (os : Array Obj) (hx : d.size * 5 ≤ xs.length) : Blk (sortWorldK enc5 5 w g 0 q d os) g (cel d.toList ++ xs.drop (d.size * 5)) T := by
  have hlt := hb.lt
  unfold Blk at *
  have e : (sortWorldK enc5 5 w g 0 q d os).heap[g]? = (putRowK enc5 5 (Go.Sort.ahead w q) g 0 d).heap[g]? := by
    unfold sortWorldK grow
    show (_ ++ os)[g]? = _
    rw [Array.getElem?_append_left (by simp [putRowK, putRow, mapBlock, Go.Sort.ahead]; exact hlt)]
  rw [e]
  show ((Go.Sort.ahead w q).heap.modify g _)[g]? = _
  have h' : w.heap[g] = .cells xs.toArray T (0, 0) := by simpa [Array.getElem?_eq_getElem hlt] using hb
  rw [Array.getElem?_eq_getElem (by simpa [Go.Sort.ahead] using hlt), Array.getElem_modify_self]
  show some (onCells _ w.heap[g]) = _
  rw [h']
  unfold onCells
  simp only [Option.some.injEq, Obj.cells.injEq, and_true]
  apply Array.ext_getElem?
  intro i
  have hcl : (cel d.toList).length = d.size * 5 := by rw [cel_len]; simp
  simp only [putCells, Array.getElem?_mapIdx, List.getElem?_toArray]
  by_cases hi : i < d.size * 5
  · rw [List.getElem?_append_left (by omega), flat_cel d.toList i (by simpa using hi), List.getElem?_eq_getElem (by omega)]
    simp only [Option.map_some]
    rw [if_pos (by simp only [size_flatK]; omega)]
    simp
  · rw [List.getElem?_append_right (by omega), List.getElem?_drop, hcl, show d.size * 5 + (i - d.size * 5) = i by omega]
    cases xs[i]? with
    | none => rfl
    | some v =>
      simp only [Option.map_some]
      rw [if_neg (by simp only [size_flatK]; omega)]
theorem putK_kept {w : World} {g : Nat} (d : Array Ply) (q : Nat) (os : Array Obj) : Kept [g] w (sortWorldK enc5 5 w g 0 q d os) :=
  ⟨rfl, rfl, rfl, by simp [sortWorldK, grow, putRowK, putRow, mapBlock, Go.Sort.ahead], fun k hk hn => by
    have e : (sortWorldK enc5 5 w g 0 q d os).heap[k]? = (putRowK enc5 5 (Go.Sort.ahead w q) g 0 d).heap[k]? := by
      unfold sortWorldK grow
      show (_ ++ os)[k]? = _
      rw [Array.getElem?_append_left (by simp [putRowK, putRow, mapBlock, Go.Sort.ahead]; exact hk)]
    rw [e]
    show ((Go.Sort.ahead w q).heap.modify g _)[k]? = _
    simp at hn
    rw [Array.getElem?_modify, if_neg (Ne.symm hn)]
    rfl⟩
theorem sortedIn_pw {h : List Ply} (hs : SortedIn (ltOf cfP) 0 h.length h.toArray) (hd : h.Pairwise (fun x y => x.nm ≠ y.nm)) : h.Pairwise ltP := by
  rw [List.pairwise_iff_getElem] at hd ⊢
  intro i j hi hj hij
  have h1 := hs i j (Nat.zero_le _) hij hj
  have h2 := hd i j hi hj hij
  rw [ltOf_not, getElem!_pos h.toArray j (by simpa using hj), getElem!_pos h.toArray i (by simpa using hi)] at h1
  simp only [List.getElem_toArray] at h1
  exact (ltP_tri h2).resolve_right h1
theorem sort_none (a : Option Addr) (c : Nat) (w : World) : Calls Try.prog 38 #[.slice a 0 c, .func (.func 23) #[] #[]] w fun e w' => e = .returned (.tuple #[]) ∧ w' = w :=
  AnyF.slices_SortFunc_none lSort a c (.func (.func 23) #[] #[]) w
theorem no_ne {h s : List Ply} (hp : s.Perm h) (hs : s.Pairwise ltP) (hu : s.Pairwise (fun x y => x.nm ≠ y.nm)) {t : List Ply} (ht : t.Perm h) (hst : SortedIn (ltOf cfP) 0 t.length t.toArray) : t = s := by
  have h1 : t.Pairwise (fun x y => x.nm ≠ y.nm) := (hp.trans ht.symm).pairwise hu (fun {_ _} e => Ne.symm e)
  exact sorted_eqP (sortedIn_pw hst h1) hs (ht.trans hp.symm)
set_option maxHeartbeats 1600000 in
theorem sort_any (v : Value) (h s : List Ply) (w : World) (ho : w.ownsRow 0 39 5 v h.length (cel h)) (hp : s.Perm h) (hs : s.Pairwise ltP) (hu : s.Pairwise (fun x y => x.nm ≠ y.nm)) (hb : h.length ≤ 1000000) :
    Calls Try.prog 38 #[v, .func (.func 23) #[] #[]] w fun e w' => e = .returned (.tuple #[]) ∧ w'.ownsRow 0 39 5 v s.length (cel s) ∧ Kept v.ownBlock.toList w w' := by
  rcases Nat.eq_zero_or_pos h.length with h0 | hpos
  · have hn : h = [] := List.eq_nil_of_length_eq_zero h0
    subst hn
    obtain rfl : s = [] := List.eq_nil_of_length_eq_zero (by simpa using hp.length_eq)
    obtain ⟨a, c, rfl⟩ := own_slice ho
    refine (sort_none a c w).mono ?_
    rintro e w' ⟨rfl, rfl⟩
    exact ⟨rfl, ho, Kept.refl _ _⟩
  · rcases ho.2 with ⟨rfl, h0⟩ | ⟨g, cap, cur, rfl, hb0, hg, hnc, hcm, hcs, htake⟩
    · omega
    · have eg : ∀ args w, (callFunc 23 args).run Try.prog w = .ok (.enter 23 args) w := enters_of Try.func23 (by kernel_rfl) rfl
      have hB : Blk w g cur.toList 39 := hg
      have hcl : cur.toList.length = cap * 5 := by simpa using hcs
      have hcon := AnyQ.slices_SortFunc lSort 5 Try.isAgg39 Try.sizeOf39 enc5 (fun _ => rfl) one_enc5 cfP swoE 23 #[] g 0 cap h.toArray w eg (cmpLaysE g 0 h.toArray.size w) (holdsE ho (fun i => hB.free i)) hB.lt (by simp; omega)
      simp only [List.size_toArray] at hcon
      refine hcon.mono ?_
      rintro e w' ⟨rfl, d', q, os, hpm, hst, rfl⟩
      have hsz : d'.size = h.length := by have := hpm.1; simpa using this
      have hperm : d'.toList.Perm h := by
        have h3 := hpm.2.2
        rw [← hsz] at h3
        have e1 : (d'.extract 0 d'.size).toList = d'.toList := by rw [Array.extract_size]
        have e2 : (h.toArray.extract 0 d'.size).toList = h := by rw [hsz]; simp
        rw [e1, e2] at h3
        exact h3
      have hds : d'.toList = s := no_ne hp hs hu hperm (by
        rw [Array.length_toList, hsz]
        simpa using hst)
      have hsl : s.length = h.length := hp.length_eq
      have hB2 := putK_blk hB d' q os (by rw [hsz, hcl]; omega)
      rw [hds, hsz] at hB2
      refine ⟨rfl, ⟨cel_len s, .inr ⟨g, cap, (cel s ++ cur.toList.drop (h.length * 5)).toArray, by rw [hsl], hb0, hB2, by omega, hcm, ?_, ?_⟩⟩, ?_⟩
      · simp [cel_len]; omega
      · show List.take (s.length * 5) (cel s ++ _) = _
        rw [List.take_left' (by rw [cel_len])]
      · simpa [Value.ownBlock] using putK_kept d' q os
end Go.Proofs.Ytimplkdmhndalaa
