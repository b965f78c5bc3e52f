/- Read of the program: a number of a text. -/
import Derived.Test.YtdfbofkdlgfblaaDoorScE
import Derived.Test.YtdfbofkdlgfblaaDoorShc
import Derived.Laws.RangeAny
import Derived.Laws.RangeString
namespace Go.Proofs.YtdfbofkdlgfblaaDoor
open Go Go.RowKit
theorem txt_size (l : List UInt8) : (⟨l.toArray⟩ : ByteArray).size = l.length := by
  show l.toArray.size = _
  simp
theorem has_minus (l : List UInt8) : Lib.hasPrefix l [45] = (l.head? == some 45) := by
  unfold Lib.hasPrefix
  cases l with
  | nil => rfl
  | cons c l =>
    simp [List.isPrefixOf]
    rw [Bool.eq_iff_iff]
    simp only [beq_iff_eq]
    exact eq_comm
theorem trim_minus (l : List UInt8) : Lib.trimPrefix l [45] = if l.head? = some 45 then l.tail else l := by
  unfold Lib.trimPrefix
  rw [has_minus]
  by_cases h : l.head? = some 45
  · rw [if_pos h, if_pos (by rw [h]; rfl)]
    simp
  · rw [if_neg h, if_neg (by simpa using h)]
theorem hasp_any (l : List UInt8) (w : World) : Calls Tryd.prog 23 #[txt l, .string { data := #[45] }] w fun e w' => e = .returned (.bool (l.head? == some 45)) ∧ w' = w := by
  refine (strings_HasPrefix ⟨l.toArray⟩ { data := #[45] } w).mono ?_
  rintro e w' ⟨rfl, rfl⟩
  refine ⟨?_, rfl⟩
  rw [show (⟨l.toArray⟩ : ByteArray).data.toList = l by simp, show ({ data := #[45] } : ByteArray).data.toList = [45] from rfl, has_minus]
theorem trimp_any (l : List UInt8) (w : World) : Calls Tryd.prog 24 #[txt l, .string { data := #[45] }] w fun e w' => e = .returned (txt (if l.head? = some 45 then l.tail else l)) ∧ w' = w := by
  refine (strings_TrimPrefix ⟨l.toArray⟩ { data := #[45] } w).mono ?_
  rintro e w' ⟨rfl, rfl⟩
  refine ⟨?_, rfl⟩
  rw [show (⟨l.toArray⟩ : ByteArray).data.toList = l by simp, show ({ data := #[45] } : ByteArray).data.toList = [45] from rfl, trim_minus]
/-- Where the program's run stands. -/
def PrI (l : List UInt8) (i : Nat) (n : Int) : Prop := loopR 0 l = loopR n (l.drop i) ∧ n ≤ 0 ∧ -9223372036854775808 ≤ n
theorem PrI.start (l : List UInt8) : PrI l 0 0 := ⟨rfl, by omega, by omega⟩
theorem PrI.bad {l : List UInt8} {i : Nat} {n : Int} {c : UInt8} (h : PrI l i n) (hc : l[i]? = some c) (hd : ¬ (48 ≤ c.toNat ∧ c.toNat ≤ 57)) : loopR 0 l = none := by
  obtain ⟨hi, rfl⟩ := List.getElem?_eq_some_iff.1 hc
  rw [h.1, List.drop_eq_getElem_cons hi, loopR, if_pos hd]
theorem PrI.great {l : List UInt8} {i : Nat} {n : Int} {c : UInt8} (h : PrI l i n) (hc : l[i]? = some c) (hd : 48 ≤ c.toNat ∧ c.toNat ≤ 57) (hg : n < Int.tdiv (-9223372036854775808 + ((c.toNat : Int) - 48)) 10) : loopR 0 l = none := by
  obtain ⟨hi, rfl⟩ := List.getElem?_eq_some_iff.1 hc
  rw [h.1, List.drop_eq_getElem_cons hi, loopR, if_neg (Decidable.not_not.2 hd), if_pos hg]
theorem PrI.next {l : List UInt8} {i : Nat} {n : Int} {c : UInt8} (h : PrI l i n) (hc : l[i]? = some c) (hd : 48 ≤ c.toNat ∧ c.toNat ≤ 57) (hg : ¬ n < Int.tdiv (-9223372036854775808 + ((c.toNat : Int) - 48)) 10) : PrI l (i + 1) (n * 10 - ((c.toNat : Int) - 48)) := by
  obtain ⟨hi, rfl⟩ := List.getElem?_eq_some_iff.1 hc
  refine ⟨?_, ?_, ?_⟩
  · rw [h.1, List.drop_eq_getElem_cons hi, loopR, if_neg (Decidable.not_not.2 hd), if_neg hg]
  · have := h.2.1; omega
  · rw [tdiv_ge (by omega)] at hg; omega
theorem PrI.done {l : List UInt8} {n : Int} (h : PrI l l.length n) : loopR 0 l = some n := by
  rw [h.1, List.drop_length]
  rfl
theorem Kept.iter {bs : List Nat} {a w : World} (h : Kept bs a w) (s : ByteArray) (p : Nat) : Kept bs a (w.iter s p) := h.alloc _
def Gd (mi : Bool) (ds : List UInt8) : Prop := ds = [] ∨ 19 < ds.length ∨ (1 < ds.length ∧ ds.head? = some 48) ∨ (mi = true ∧ ds = [48])
theorem progD_g {mi : Bool} {ds : List UInt8} (h : Gd mi ds) : progD mi ds = (0, false) := by unfold progD; exact if_pos h
theorem progD_n {mi : Bool} {ds : List UInt8} (h : ¬ Gd mi ds) (hn : loopR 0 ds = none) : progD mi ds = (0, false) := by
  unfold Gd at h
  unfold progD
  rw [if_neg h, hn]
theorem progD_m {ds : List UInt8} {n : Int} (h : ¬ Gd true ds) (hn : loopR 0 ds = some n) : progD true ds = (n, true) := by
  unfold Gd at h
  unfold progD
  rw [if_neg h, hn]
  simp only [if_true]
theorem progD_p {ds : List UInt8} {n : Int} (h : ¬ Gd false ds) (hn : loopR 0 ds = some n) : progD false ds = if n = -9223372036854775808 then (0, false) else (-n, true) := by
  unfold Gd at h
  unfold progD
  rw [if_neg h, hn]
  simp only [Bool.false_eq_true, if_false]
set_option maxRecDepth 100000 in
set_option maxHeartbeats 6400000 in
theorem read_loop (l ds : List UInt8) (mi : Bool) (w : World) (hmi : mi = (l.head? == some 45)) (hds : ds = if l.head? = some 45 then l.tail else l)
    (h1 : ds ≠ []) (h2 : ¬ 19 < ds.length) (h3 : ¬ (1 < ds.length ∧ ds.head? = some 48)) (h4 : ¬ (mi = true ∧ ds = [48])) :
    Calls Tryd.prog 10 #[txt l] w fun e w' => e = .returned (.tuple #[.int .i64 (progD mi ds).1, .bool (progD mi ds).2]) ∧ Kept [] w w' := by
  have HH := hx (hasp_any l w)
  rw [← hmi] at HH
  have HT := hx (trimp_any l w)
  rw [← hds] at HT
  have hl0 : ((ds.length : Int) == 0) = false := by have := List.length_pos_iff.2 h1; simp; omega
  have hl19 : ¬ (19 : Int) < (ds.length : Int) := by omega
  have hg := hx (show ¬ Gd mi ds from fun h => h.elim h1 (fun h => h.elim h2 (fun h => h.elim h3 h4)))
  have hB : mi = false ∨ (mi = true ∧ (ds == [48]) = false) := by
    cases mi
    · exact .inl rfl
    · exact .inr ⟨rfl, by simpa using fun h => h4 ⟨rfl, h⟩⟩
  have hC : ¬ (1 : Int) < (ds.length : Int) ∨ ((1 : Int) < (ds.length : Int) ∧ ∀ h, ((((⟨ds.toArray⟩ : ByteArray)[0]'h).toNat : Int) == 48) = false) := by
    by_cases hlt : 1 < ds.length
    · refine .inr ⟨by omega, fun h => ?_⟩
      have h5 : ds.head? ≠ some 48 := fun e => h3 ⟨hlt, e⟩
      cases ds with
      | nil => exact absurd rfl h1
      | cons c r =>
        simp only [List.head?_cons, ne_eq, Option.some.injEq] at h5
        have e : ((⟨(c :: r).toArray⟩ : ByteArray)[0]'h) = c := rfl
        rw [e]
        simp
        intro h6
        apply h5
        apply UInt8.toNat_inj.1
        show c.toNat = 48
        omega
    · exact .inl (by omega)
  clear hmi hds h2 h3 h4
  have hpos : 0 < (⟨ds.toArray⟩ : ByteArray).size := by rw [txt_size]; exact List.length_pos_iff.2 h1
  have H1 := hx h1
  clear h1
  rcases hB with rfl | ⟨rfl, hB⟩ <;> rcases hC with hC | ⟨hC, hD⟩ <;> try (have hE := hD hpos)
  all_goals
    go_enter Tryd.func10, Tryd.ntmps10
    go_wp2_with (first
      | (go_at_call 23; refine HH.out.mono ?_; rintro e w1 ⟨rfl, rfl⟩)
      | (go_at_call 24; refine HT.out.mono ?_; rintro e w1 ⟨rfl, rfl⟩))
    try clear hE hD
    clear hpos hC
    try clear hB
    go_loopw [6] (fun nv wr => ∃ (n : Int) (i : Nat), i ≤ ds.length ∧ nv = .int .i64 n ∧ wr = w1.iter ⟨ds.toArray⟩ i ∧ PrI ds i n) (fun _ wr => ds.length - wr.iterPos w1.heap.size)
    case atStart => exact ⟨0, 0, Nat.zero_le _, rfl, rfl, PrI.start ds⟩
    case round =>
      obtain ⟨n, i, hi, rfl, rfl, hr⟩ := hrel
      by_cases hlt : i < ds.length
      · obtain ⟨c, hc⟩ : ∃ c, ds[i]? = some c := ⟨_, List.getElem?_eq_getElem hlt⟩
        have hsz : i < (⟨ds.toArray⟩ : ByteArray).size := by rw [txt_size]; exact hlt
        have hce : ((⟨ds.toArray⟩ : ByteArray)[i]'hsz) = c := by
          obtain ⟨_, rfl⟩ := List.getElem?_eq_some_iff.1 hc
          rfl
        by_cases h128 : c.toNat < 128
        · have hnx : ∀ ty, (Instr.next (.pointer (some ⟨w1.heap.size, 0, none⟩)) true ty).run Tryd.prog (w1.iter ⟨ds.toArray⟩ i) = .ok (.tuple #[.bool true, .int .i64 i, .int .i32 (c.toNat : Int)]) (w1.iter ⟨ds.toArray⟩ (i + 1)) := fun ty => by
            rw [run_next_ascii w1 _ i ty hsz (by rw [hce]; exact h128), hce]
          by_cases h48 : (c.toNat : Int) < 48
          · have HB := hx (hr.bad hc (by omega))
            clear hr hi hlt hc hce
            go_wp2_with fail
            go_ret2
            exact ⟨by rw [progD_n hg.out HB.out]; rfl, (Kept.refl _ _).iter _ _⟩
          · by_cases h57 : (57 : Int) < (c.toNat : Int)
            · have HB := hx (hr.bad hc (by omega))
              clear hr hi hlt hc hce
              go_wp2_with fail
              go_ret2
              exact ⟨by rw [progD_n hg.out HB.out]; rfl, (Kept.refl _ _).iter _ _⟩
            · have hd : 48 ≤ c.toNat ∧ c.toNat ≤ 57 := by omega
              by_cases hgr : n < Int.tdiv (-9223372036854775808 + ((c.toNat : Int) - 48)) 10
              · have HB := hx (hr.great hc hd hgr)
                clear hr hi hlt hc hce hd
                go_wp2_with fail
                go_ret2
                exact ⟨by rw [progD_n hg.out HB.out]; rfl, (Kept.refl _ _).iter _ _⟩
              · have HN := hx (hr.next hc hd hgr)
                have HLT := hx hlt
                have HR := hx hr.2
                have HDD := hx hd
                clear hr hi hlt hc hce hd
                go_wp2_with fail
                go_roundw
                case rel =>
                  refine ⟨n * 10 - ((c.toNat : Int) - 48), i + 1, HLT.out, ?_, rfl, HN.out⟩
                  congr 1
                  have h1 := HN.out.2
                  have h2 := HR.out
                  have h3 := HDD.out
                  unfold wrap64
                  omega
                case measure =>
                  have h := HLT.out
                  simp
                  omega
        · have hge : 57 < (Utf8.decode ⟨ds.toArray⟩ i).1 := by
            have := (decode_high ⟨ds.toArray⟩ i hsz (by rw [hce]; omega)).1
            omega
          have HB := hx (hr.bad hc (by omega))
          obtain ⟨d, hd⟩ : ∃ d, d = (Utf8.decode ⟨ds.toArray⟩ i).1 := ⟨_, rfl⟩
          obtain ⟨p, hp⟩ : ∃ p, p = i + (Utf8.decode ⟨ds.toArray⟩ i).2 := ⟨_, rfl⟩
          have hnx : ∀ ty, (Instr.next (.pointer (some ⟨w1.heap.size, 0, none⟩)) true ty).run Tryd.prog (w1.iter ⟨ds.toArray⟩ i) = .ok (.tuple #[.bool true, .int .i64 i, .int .i32 (d : Int)]) (w1.iter ⟨ds.toArray⟩ p) := fun ty => by
            rw [run_next_any w1 _ i ty hsz, hd, hp]
          rw [← hd] at hge
          have hg57 : (57 : Int) < (d : Int) := by omega
          have hg48 : ¬ (d : Int) < 48 := by omega
          clear hr hi hlt hc hce hd hp hge h128
          go_wp2_with fail
          go_ret2
          exact ⟨by rw [progD_n hg.out HB.out]; rfl, (Kept.refl _ _).iter _ _⟩
      · have e : i = ds.length := by omega
        subst e
        have HD := hx hr.done
        have HR := hx hr.2
        have hnx : ∀ ty, (Instr.next (.pointer (some ⟨w1.heap.size, 0, none⟩)) true ty).run Tryd.prog (w1.iter ⟨ds.toArray⟩ ds.length) = _ := fun ty => run_next_end w1 _ _ ty (by rw [txt_size]; omega)
        clear hi hlt hr
        go_wp2_with fail
        all_goals go_ret2
        all_goals
          refine ⟨?_, (Kept.refl _ _).iter _ _⟩
          first
          | (rw [progD_m hg.out HD.out]; rfl)
          | (have hn : n = -9223372036854775808 := by rename_i h; simpa using h
             rw [progD_p hg.out HD.out, if_pos hn]
             rfl)
          | (have hn : n ≠ -9223372036854775808 := by rename_i h; simpa using h
             rw [progD_p hg.out HD.out, if_neg hn]
             have h2 := HR.out
             show Ending.returned (.tuple #[.int .i64 _, .bool true]) = _
             have e : wrap64 (-n) = -n := by unfold wrap64; omega
             rw [e])
set_option maxRecDepth 100000 in
set_option maxHeartbeats 6400000 in
theorem read_gd (l ds : List UInt8) (mi : Bool) (w : World) (hmi : mi = (l.head? == some 45)) (hds : ds = if l.head? = some 45 then l.tail else l) (hG : Gd mi ds) :
    Calls Tryd.prog 10 #[txt l] w fun e w' => e = .returned (.tuple #[.int .i64 (progD mi ds).1, .bool (progD mi ds).2]) ∧ Kept [] w w' := by
  have HH := hx (hasp_any l w)
  rw [← hmi] at HH
  have HT := hx (trimp_any l w)
  rw [← hds] at HT
  have HP := hx (progD_g hG)
  clear hmi hds
  have hall : ds = [] ∨ (((ds.length : Int) == 0) = false ∧ (19 : Int) < (ds.length : Int)) ∨ (((ds.length : Int) == 0) = false ∧ ¬ (19 : Int) < (ds.length : Int) ∧ (1 : Int) < (ds.length : Int) ∧ 0 < (⟨ds.toArray⟩ : ByteArray).size ∧ ∀ h, ((((⟨ds.toArray⟩ : ByteArray)[0]'h).toNat : Int) == 48) = true) ∨ (mi = true ∧ ds = [48]) := by
    by_cases h0 : ds = []
    · exact .inl h0
    have hp := List.length_pos_iff.2 h0
    have hl0 : ((ds.length : Int) == 0) = false := by simp; omega
    by_cases h19 : 19 < ds.length
    · exact .inr (.inl ⟨hl0, by omega⟩)
    rcases hG with h | h | h | h
    · exact absurd h h0
    · exact absurd h h19
    · refine .inr (.inr (.inl ⟨hl0, by omega, by have := h.1; omega, by rw [txt_size]; exact hp, fun hh => ?_⟩))
      cases ds with
      | nil => exact absurd rfl h0
      | cons c r =>
        have h5 := h.2
        simp only [List.head?_cons, Option.some.injEq] at h5
        subst h5
        rfl
    · exact .inr (.inr (.inr h))
  clear hG
  rcases hall with rfl | ⟨h0, h19⟩ | ⟨h0, h19, h1, hs, hE⟩ | ⟨rfl, rfl⟩ <;> try (have hE2 := hE hs; clear hE)
  all_goals
    go_enter Tryd.func10, Tryd.ntmps10
    go_wp2_with (first
      | (go_at_call 23; refine HH.out.mono ?_; rintro e w1 ⟨rfl, rfl⟩)
      | (go_at_call 24; refine HT.out.mono ?_; rintro e w1 ⟨rfl, rfl⟩))
    all_goals
      go_ret2
      exact ⟨by rw [HP.out]; rfl, Kept.refl _ _⟩
/-- The program's Read. -/
theorem read_any (l : List UInt8) (w : World) :
    Calls Tryd.prog 10 #[txt l] w fun e w' => e = .returned (.tuple #[.int .i64 (progR l).1, .bool (progR l).2]) ∧ Kept [] w w' := by
  have key : ∀ (mi : Bool) (ds : List UInt8), mi = (l.head? == some 45) → (ds = if l.head? = some 45 then l.tail else l) → Calls Tryd.prog 10 #[txt l] w fun e w' => e = .returned (.tuple #[.int .i64 (progD mi ds).1, .bool (progD mi ds).2]) ∧ Kept [] w w' := by
    intro mi ds hmi hds
    by_cases hG : Gd mi ds
    · exact read_gd l ds mi w hmi hds hG
    · exact read_loop l ds mi w hmi hds (fun h => hG (.inl h)) (fun h => hG (.inr (.inl h))) (fun h => hG (.inr (.inr (.inl h)))) (fun h => hG (.inr (.inr (.inr h))))
  unfold progR
  by_cases h : l.head? = some 45
  · rw [if_pos h]
    exact key true _ (by rw [h]; rfl) (by rw [if_pos h])
  · rw [if_neg h]
    exact key false _ (by simpa using h) (by rw [if_neg h])
end Go.Proofs.YtdfbofkdlgfblaaDoor
