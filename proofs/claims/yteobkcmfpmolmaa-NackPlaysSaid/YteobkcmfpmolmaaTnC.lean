/- slices.Delete at the timer's entries. -/
import Derived.Test.YteobkcmfpmolmaaTnB
import Derived.Shelf.RegionOpenPlain
import Derived.Deep.RegionLaw
import Derived.Lib.SliceRun
namespace Go.Proofs.Yteobkcmfpmolmaa
open Go Go.RowKit Go.Shelf
section
variable {P : Program}
theorem run_clear_rows (w : World) (t e ty : TypeId) (z : Value) (zs : List Value) (ht : P.underlying t = some (.slice e)) (hv : ∀ w, (zeroValue e).run P w = .ok z w) (hz : z.cells = zs.toArray) (h1 : ∀ v ∈ zs, v.oneCell' = true) (b o n c : Nat) (hn : 0 < n) (h0 : 0 < zs.length)
    (hc : ∀ j, j < n * zs.length → (w.cell? ⟨b, o + j, none⟩).isSome = true) (hf : ∀ j, j < n * zs.length → w.frozen? ⟨b, o + j, none⟩ = false) :
    ∃ vs : List Value, vs.length = n * zs.length ∧ (Builtin.clear_ #[t] ty #[.slice (some ⟨b, o, none⟩) n c]).run P w = .ok (.tuple #[]) (w.setCells b o vs) := by
  refine ⟨(Builtin.zeroCells z.cells n).toList, by rw [hz]; simp [Builtin.zeroCells], ?_⟩
  have hl : (Builtin.zeroCells z.cells n).toList.length = n * zs.length := by rw [hz]; simp [Builtin.zeroCells]
  have hst := run_storeCells_cells (P := P) b o (Builtin.zeroCells z.cells n).toList 0 w (by rw [hl]; simpa using hc) (by rw [hl]; simpa using hf) (by
    intro v hv'
    rw [hz] at hv'
    simp only [Builtin.zeroCells, Array.toList_map, List.mem_map] at hv'
    obtain ⟨i, _, rfl⟩ := hv'
    have hm : i % zs.toArray.size < zs.toArray.size := Nat.mod_lt _ (by simpa using h0)
    rw [getElem!_pos zs.toArray _ hm]
    exact h1 _ (by simp))
  simp only [Nat.add_zero] at hst
  obtain ⟨m, rfl⟩ : ∃ m, n = m + 1 := ⟨n - 1, by omega⟩
  simp [Builtin.clear_, run_underlying ht, hv, hst]
end
theorem zeroEn (w : World) : (zeroValue 78).run Try.prog w = .ok (.agg #[.int .u32 0, .int .i64 0, .int .i64 0]) w := by kernel_rfl
theorem infoEn : (Try.prog.info? 78).map (fun i => (i.zero, i.size, i.bytes)) = some (some (.agg #[.int .u32 0, .int .i64 0, .int .i64 0]), 3, 24) := by kernel_rfl
set_option maxHeartbeats 1600000 in
/-- Nothing to delete. -/
theorem del_none (a : Option Addr) (n cap i : Nat) (w : World) (hi : i ≤ n) (hn : n ≤ cap) (ha : a = none → cap = 0) (hs : ∀ p, a = some p → p.spot = none) :
    Calls Try.prog 38 #[.slice a n cap, .int .i64 i, .int .i64 i] w fun e w' => e = .returned (.slice a n cap) ∧ w = w' := by
  have h1 : (i : Int) ≤ (n : Int) := by omega
  have h2 : (n : Int) ≤ (cap : Int) := by omega
  cases a with
  | none =>
    obtain rfl := ha rfl
    obtain rfl : n = 0 := by omega
    obtain rfl : i = 0 := by omega
    clear ha hs hi hn h1 h2
    go_enter Try.func38, Try.ntmps38
    go_wp2
    all_goals (go_ret; exact ⟨rfl, rfl⟩)
  | some p =>
    obtain ⟨b, off, sp⟩ := p
    obtain rfl : sp = none := hs _ rfl
    clear ha hs
    go_enter Try.func38, Try.ntmps38
    go_wp2
    all_goals (go_ret; exact ⟨rfl, rfl⟩)
set_option maxHeartbeats 4000000 in
set_option maxRecDepth 1000000 in
theorem del_rows (g cap n i j : Nat) (xs news : List Value) (w : World) (hb : Blk w g xs 78) (hx : xs.length = cap * 3) (hne : news = (xs.drop (j * 3)).take ((n - j) * 3)) (h1 : ∀ u ∈ news, u.oneCell' = true) (hij : i < j) (hj : j ≤ n) (hn : n ≤ cap) :
    Calls Try.prog 38 #[.slice (some ⟨g, 0, none⟩) n cap, .int .i64 i, .int .i64 j] w fun e w' => e = .returned (.slice (some ⟨g, 0, none⟩) (n - (j - i)) cap) ∧ ∃ vs, vs.length = (j - i) * 3 ∧ Blk w' g (setAll (setAll xs (i * 3) news) ((n - (j - i)) * 3) vs) 78 ∧ Kept [g] w w' := by
  have hl : news.length = (n - j) * 3 := by rw [hne, List.length_take, List.length_drop]; omega
  have hget : ∀ t u, news[t]? = some u → xs[j * 3 + t]? = some u := fun t u hu => by
    have ht := (List.getElem?_eq_some_iff.1 hu).1
    rw [hne, List.getElem?_take_of_lt (by omega), List.getElem?_drop] at hu
    exact hu
  obtain ⟨A, hA, hsrc⟩ : ∃ A : Addr, (if cap = j then some (⟨g, 0, none⟩ : Addr) else some ⟨g, j * 3, none⟩) = some A ∧ Hid (∀ t u, news[t]? = some u → w.drew.cell? (A.add t) = some u) := by
    by_cases h : cap = j
    · refine ⟨⟨g, 0, none⟩, by simp [h], fun t u hu => ?_⟩
      have := (List.getElem?_eq_some_iff.1 hu).1
      omega
    · refine ⟨⟨g, j * 3, none⟩, by simp [h], fun t u hu => ?_⟩
      rw [Addr.add_mid]
      exact hb.cell (hget t u hu)
  have s1 : Hid (news.length = (n - j) * 3) := hl
  have s2 : Hid (∀ u ∈ news, u.oneCell' = true) := h1
  have s3 : Hid (∀ t, t < news.length → (w.drew.cell? ⟨g, 0 + i * 3 + t, none⟩).isSome = true ∧ w.drew.frozen? ⟨g, 0 + i * 3 + t, none⟩ = false) := by
    intro t ht
    rw [hl] at ht
    rw [Nat.zero_add]
    refine ⟨?_, hb.free _⟩
    show (w.cell? _).isSome = true
    rw [hb.cell (i := i * 3 + t) (List.getElem?_eq_getElem (by omega))]; rfl
  obtain ⟨W1, hW1⟩ : ∃ W1, W1 = w.drew.setCells g (0 + i * 3) news := ⟨_, rfl⟩
  have hB1 : Hid (Blk W1 g (setAll xs (i * 3) news) 78) := by rw [hW1, Nat.zero_add]; exact hb.drew.setCells _ _
  have hK1 : Hid (Kept [g] w W1) := by rw [hW1]; exact (Kept.refl _ _).drew.setCells (by simp) _ _
  obtain ⟨vs, hvl, hcl⟩ : ∃ vs : List Value, Hid (vs.length = (n - (i + (n - j))) * 3) ∧ ∀ ty, (Builtin.clear_ #[79] ty #[.slice (some ⟨g, (i + (n - j)) * 3, none⟩) (n - (i + (n - j))) (cap - (i + (n - j)))]).run Try.prog W1 = .ok (.tuple #[]) (W1.setCells g ((i + (n - j)) * 3) vs) := by
    have hB := hB1.out
    obtain ⟨vs, h1, h2⟩ := run_clear_rows (P := Try.prog) W1 79 78 0 _ [.int .u32 0, .int .i64 0, .int .i64 0] Try.underlying79 zeroEn rfl (by intro v hv; simp at hv; rcases hv with rfl | rfl <;> rfl) g ((i + (n - j)) * 3) (n - (i + (n - j))) (cap - (i + (n - j))) (by omega) (by simp) (fun t ht => by
      simp only [List.length_cons, List.length_nil] at ht
      rw [hB.cell (i := (i + (n - j)) * 3 + t) (List.getElem?_eq_getElem (by rw [setAll_len]; omega))]; rfl) (fun t _ => hB.free _)
    exact ⟨vs, (by simpa using h1 : vs.length = (n - (i + (n - j))) * 3), fun ty => h2⟩
  have hW : Hid (W1 = w.drew.setCells g (0 + i * 3) news) := hW1
  have hic : i ≤ cap := by omega
  have hjc : j ≤ cap := by omega
  have HN : Hid (xs.length = cap * 3) := hx
  clear hW1 hb hget hne hl h1 hx
  go_enter Try.func38, Try.ntmps38
  go_wp2_with fail
  obtain ⟨i0, hi0, _, hz1, _⟩ := info_parts infoEn
  have HI := hx (And.intro hi0 hz1)
  clear hi0 hz1
  go_region_law (refine step_append_room rfl (.tmp 22) (.tmp 25) 79 rfl 78 i0 3 Try.underlying79 HI.out.1 HI.out.2 g 0 i cap (by simp [Act.eval, Act.put]) A (n - j) (cap - j) news (by simp [Act.eval, Act.put]) s1.out hsrc.out s2.out (by omega) s3.out ?_; rw [← hW.out])
  go_wp2
  go_ret
  refine ⟨by rw [show n - (j - i) = i + (n - j) by omega]; rfl, vs, by rw [hvl.out]; congr 1; omega, ?_, ?_⟩
  · rw [show n - (j - i) = i + (n - j) by omega]
    exact hB1.out.setCells _ _
  · exact hK1.out.setCells (by simp) _ _
theorem cel_app (a b : List En) : cel (a ++ b) = cel a ++ cel b := by simp [cel]
theorem cel_take (h : List En) (i : Nat) : (cel h).take (i * 3) = cel (h.take i) := by
  rcases Nat.lt_or_ge h.length i with hi | hi
  · rw [List.take_of_length_le (by rw [cel_len]; omega), List.take_of_length_le (by omega)]
  · have e : cel h = cel (h.take i) ++ cel (h.drop i) := by rw [← cel_app, List.take_append_drop]
    rw [e, List.take_left' (by rw [cel_len, List.length_take]; omega)]
theorem cel_drop (h : List En) (i : Nat) : (cel h).drop (i * 3) = cel (h.drop i) := by
  rcases Nat.lt_or_ge h.length i with hi | hi
  · rw [List.drop_of_length_le (by rw [cel_len]; omega), List.drop_of_length_le (by omega)]; rfl
  · have e : cel h = cel (h.take i) ++ cel (h.drop i) := by rw [← cel_app, List.take_append_drop]
    rw [e, List.drop_left' (by rw [cel_len, List.length_take]; omega)]
theorem setAll_take (xs vs : List Value) (o k : Nat) (h : o + vs.length ≤ xs.length) (hk : k ≤ o) : (setAll xs o vs).take k = xs.take k := by
  apply List.ext_getElem?
  intro i
  rw [List.getElem?_take, List.getElem?_take]
  split
  · rw [setAll_get _ _ _ h, if_neg (by omega)]
  · rfl
theorem setAll_take2 (xs vs : List Value) (o : Nat) (h : o + vs.length ≤ xs.length) : (setAll xs o vs).take (o + vs.length) = xs.take o ++ vs := by
  apply List.ext_getElem?
  intro i
  rw [List.getElem?_take]
  by_cases h1 : i < o
  · rw [if_pos (by omega), setAll_get _ _ _ h, if_neg (by omega), List.getElem?_append_left (by rw [List.length_take]; omega), List.getElem?_take_of_lt h1]
  · rw [List.getElem?_append_right (by rw [List.length_take]; omega), List.length_take, show i - min o xs.length = i - o by omega]
    split
    · rw [setAll_get _ _ _ h, if_pos (by omega)]
    · rw [List.getElem?_eq_none (by omega)]
theorem del_any (v : Value) (h : List En) (i j : Nat) (w : World) (ho : w.ownsRow 0 78 3 v h.length (cel h)) (hij : i ≤ j) (hj : j ≤ h.length) :
    Calls Try.prog 38 #[v, .int .i64 i, .int .i64 j] w fun e w' => ∃ v', e = .returned v' ∧ w'.ownsRow 0 78 3 v' (h.take i ++ h.drop j).length (cel (h.take i ++ h.drop j)) ∧ v'.ownBlock = v.ownBlock ∧ Kept v.ownBlock.toList w w' := by
  have hnl : (h.take i ++ h.drop j).length = h.length - (j - i) := by simp; omega
  rcases Nat.eq_or_lt_of_le hij with e | hlt
  · subst e
    have hv : ∃ a c, v = .slice a h.length c ∧ h.length ≤ c ∧ (a = none → c = 0) ∧ ∀ p, a = some p → p.spot = none := by
      rcases ho.2 with ⟨rfl, h0⟩ | ⟨g, cap, cur, rfl, _, _, hnc, _⟩
      · exact ⟨none, 0, by rw [h0], by omega, fun _ => rfl, by simp⟩
      · exact ⟨_, cap, rfl, hnc, by simp, fun p hp => by simp at hp; subst hp; rfl⟩
    obtain ⟨a, c, rfl, h1, h2, h3⟩ := hv
    refine (del_none a h.length c i w hj h1 h2 h3).mono ?_
    rintro e w' ⟨rfl, rfl⟩
    exact ⟨_, rfl, by rw [List.take_append_drop]; exact ho, rfl, Kept.refl _ _⟩
  · rcases ho.2 with ⟨rfl, h0⟩ | ⟨g, cap, cur, rfl, hb, hg, hnc, hcm, hcs, htake⟩
    · omega
    · have hct : cur.toList.take (h.length * 3) = cel h := htake
      have hne : cel (h.drop j) = (cur.toList.drop (j * 3)).take ((h.length - j) * 3) := by
        rw [← cel_drop, ← hct, List.drop_take, Nat.sub_mul]
      refine (del_rows g cap h.length i j cur.toList (cel (h.drop j)) w hg (by simpa using hcs) hne (cel_one _) hlt hj hnc).mono ?_
      rintro e w' ⟨rfl, vs, hvl, hB, hK⟩
      have hl1 : (cel (h.drop j)).length = (h.length - j) * 3 := by rw [cel_len, List.length_drop]
      have hxl : cur.toList.length = cap * 3 := by simpa using hcs
      have hct3 : cel (h.take i) = cur.toList.take (i * 3) := by
        rw [← cel_take, ← hct, List.take_take, Nat.min_eq_left (by omega)]
      refine ⟨_, rfl, ⟨by rw [cel_len], .inr ⟨g, cap, _, by rw [hnl], hb, hB, by omega, hcm, ?_, ?_⟩⟩, rfl, by simpa [Value.ownBlock] using hK⟩
      · simp [setAll_len, hxl]
      · rw [hnl, List.toList_toArray, setAll_take _ _ _ _ (by rw [setAll_len]; omega) (by omega), show (h.length - (j - i)) * 3 = i * 3 + (cel (h.drop j)).length by rw [hl1]; omega, setAll_take2 _ _ _ (by omega), cel_app, hct3]
end Go.Proofs.Yteobkcmfpmolmaa
