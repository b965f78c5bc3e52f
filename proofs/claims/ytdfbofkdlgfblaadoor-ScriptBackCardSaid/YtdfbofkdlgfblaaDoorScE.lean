/- Read of the document: a number of a text. -/
import Derived.Test.YtdfbofkdlgfblaaDoorScD
namespace Go.Proofs.YtdfbofkdlgfblaaDoor
open Go Go.RowKit
/-- A letter of a text. -/
theorem idx_txt {l : List UInt8} {i : Nat} {c : UInt8} (h : l[i]? = some c) (X : World) : (Instr.index 9 (txt l) (.int .i64 (i : Int))).run Tryd.prog X = .ok (.int .u8 (c.toNat : Int)) X := by
  obtain ⟨hi, rfl⟩ := List.getElem?_eq_some_iff.1 h
  unfold txt
  rw [run_index_string X 9 _ .i64 (i : Int) Tryd.underlying9, dif_pos ⟨by omega, by show (i : Int) < ((l.toArray.size : Nat) : Int); simp; omega⟩]
  rfl
/-- What is left of a text. -/
def restR (l : List UInt8) (i : Nat) : List UInt8 := if i = 0 ∧ l.head? = some 45 then l.tail else l.drop i
def RgI (l : List UInt8) (i : Nat) (n : Int) : Prop := refLoop 0 (restR l 0) = refLoop n (restR l i) ∧ in64 n
theorem RgI.start (l : List UInt8) : RgI l 0 0 := ⟨rfl, by unfold in64; omega⟩
theorem restR_zero (l : List UInt8) : restR l 0 = if l.head? = some 45 then l.tail else l := by
  unfold restR
  simp
theorem RgI.minus {l : List UInt8} {n : Int} (h : RgI l 0 n) (hm : l.head? = some 45) : RgI l 1 n := by
  refine ⟨h.1.trans ?_, h.2⟩
  unfold restR
  rw [if_pos ⟨rfl, hm⟩, if_neg (by omega), List.drop_one]
theorem restR_cons {l : List UInt8} {i : Nat} {c : UInt8} (hc : l[i]? = some c) (hn : ¬ (i = 0 ∧ c = 45)) : restR l i = c :: restR l (i + 1) := by
  obtain ⟨hi, rfl⟩ := List.getElem?_eq_some_iff.1 hc
  have h1 : ¬ (i = 0 ∧ l.head? = some 45) := by
    rintro ⟨rfl, h⟩
    apply hn
    rw [List.head?_eq_getElem?] at h
    rw [h] at hc
    simp only [Option.some.injEq] at hc
    exact ⟨rfl, hc.symm⟩
  unfold restR
  rw [if_neg h1, if_neg (by omega), List.drop_eq_getElem_cons hi]
theorem RgI.bad {l : List UInt8} {i : Nat} {c : UInt8} {n : Int} (h : RgI l i n) (hc : l[i]? = some c) (hn : ¬ (i = 0 ∧ c = 45)) (hd : ¬ (48 ≤ c.toNat ∧ c.toNat ≤ 57)) : refLoop 0 (restR l 0) = none := by
  rw [h.1, restR_cons hc hn, refLoop, if_pos hd]
theorem RgI.next {l : List UInt8} {i : Nat} {c : UInt8} {n : Int} (h : RgI l i n) (hc : l[i]? = some c) (hn : ¬ (i = 0 ∧ c = 45)) (hd : 48 ≤ c.toNat ∧ c.toNat ≤ 57) : RgI l (i + 1) (w64 (w64 (n * 10) - ((c.toNat : Int) - 48))) := by
  refine ⟨?_, w64_in _⟩
  rw [h.1, restR_cons hc hn, refLoop, if_neg (by omega)]
theorem RgI.done {l : List UInt8} {n : Int} (h : RgI l l.length n) (hl : l ≠ []) : refLoop 0 (restR l 0) = some n := by
  rw [h.1]
  have h1 := List.length_pos_iff.2 hl
  unfold restR
  rw [if_neg (by omega), List.drop_length]
  rfl
theorem refR_m {l : List UInt8} {n : Int} (h1 : ¬ l = [] ∧ ¬ 20 < l.length) (hh : l.head? = some 45) (hd : refLoop 0 (if l.head? = some 45 then l.tail else l) = some n) : refR l = if numL n = l then (n, true) else (0, false) := by
  unfold refR
  rw [if_neg (fun h => h.elim h1.1 h1.2), hd]
  simp only [if_pos hh]
theorem refR_p {l : List UInt8} {n : Int} (h1 : ¬ l = [] ∧ ¬ 20 < l.length) (hh : ¬ l.head? = some 45) (hd : refLoop 0 (if l.head? = some 45 then l.tail else l) = some n) : refR l = if numL (w64 (-n)) = l then (w64 (-n), true) else (0, false) := by
  unfold refR
  rw [if_neg (fun h => h.elim h1.1 h1.2), hd]
  simp only [if_neg hh]
theorem refR_n {l : List UInt8} (h1 : ¬ l = [] ∧ ¬ 20 < l.length) (hd : refLoop 0 (if l.head? = some 45 then l.tail else l) = none) : refR l = (0, false) := by
  unfold refR
  rw [if_neg (fun h => h.elim h1.1 h1.2), hd]
set_option maxRecDepth 100000 in
set_option maxHeartbeats 6400000 in
theorem rread_any (l : List UInt8) (w : World) :
    Calls Tryd.prog 12 #[txt l] w fun e w' => e = .returned (.tuple #[.int .i64 (refR l).1, .bool (refR l).2]) ∧ Kept [] w w' := by
  by_cases h0 : l = []
  · subst h0
    go_enter Tryd.func12, Tryd.ntmps12
    go_wp2
    go_ret2
    exact ⟨rfl, Kept.refl _ _⟩
  by_cases h20 : 20 < l.length
  · have h20i : (20 : Int) < (l.length : Int) := by omega
    have hr : refR l = (0, false) := by unfold refR; rw [if_pos (.inr h20)]
    have hl0 : ((l.length : Int) == 0) = false := by simp; omega
    clear h20
    go_enter Tryd.func12, Tryd.ntmps12
    go_wp2
    go_ret2
    exact ⟨by rw [hr]; rfl, Kept.refl _ _⟩
  have hl0 : ((l.length : Int) == 0) = false := by have := List.length_pos_iff.2 h0; simp; omega
  have h20i : ¬ (20 : Int) < (l.length : Int) := by omega
  have HL := hx (And.intro h0 h20)
  clear h0 h20
  go_enter Tryd.func12, Tryd.ntmps12
  go_wp2_with fail
  go_loopw [4, 5] (fun nv iv wr => ∃ (n : Int) (i : Nat), i ≤ l.length ∧ nv = .int .i64 n ∧ iv = .int .i64 (i : Int) ∧ RgI l i n ∧ Kept [] w wr) (fun _ iv _ => (l.length - intOf iv).toNat)
  case atStart => exact ⟨0, 0, Nat.zero_le _, rfl, rfl, RgI.start l, Kept.refl _ _⟩
  case round =>
    obtain ⟨n, i, hi, rfl, rfl, hr, hk⟩ := hrel
    have HR := hx hr
    have HK := hx hk
    have HI := hx hi
    by_cases hlt : i < l.length
    · have hil : (i : Int) < (l.length : Int) := by omega
      obtain ⟨c, hc⟩ : ∃ c, l[i]? = some c := ⟨_, List.getElem?_eq_getElem hlt⟩
      have HC := hx hc
      have hix := idx_txt hc wr
      by_cases hz : i = 0
      · have hi0 : ((i : Int) == 0) = true := by simp; omega
        have hc0 := hc
        rw [hz] at hc0
        by_cases h45 : c = 45
        · subst h45
          have hix0 : (Instr.index 9 (txt l) (.int .i64 0)).run Tryd.prog wr = .ok (.int .u8 45) wr := idx_txt (i := 0) (c := 45) hc0 wr
          have HMN := hx (RgI.minus (l := l) (n := n) (by rw [← hz]; exact hr) (by rw [List.head?_eq_getElem?]; exact hc0))
          have HZ := hx (And.intro hz hlt)
          clear hr hk hi hlt hc hc0 hix hz
          go_wp2_with fail
          go_roundw
          case rel => exact ⟨n, i + 1, HZ.out.2, rfl, rfl, by rw [HZ.out.1]; exact HMN.out, HK.out⟩
          case measure =>
            simp only [intOf]
            have h := HZ.out.2
            omega
        · have hix0 : (Instr.index 9 (txt l) (.int .i64 0)).run Tryd.prog wr = .ok (.int .u8 (c.toNat : Int)) wr := idx_txt (i := 0) hc0 wr
          have hcm : ((c.toNat : Int) == 45) = false := by
            simp
            intro h
            apply h45
            apply UInt8.toNat_inj.1
            show c.toNat = 45
            omega
          have hnm : ¬ (i = 0 ∧ c = 45) := fun h => h45 h.2
          clear hz hc0 h45
          have HNM := hx hnm
          by_cases h48 : (c.toNat : Int) < 48
          · have HB := hx (hr.bad hc hnm (by omega))
            rw [restR_zero] at HB
            clear hr hk hi hlt hc hnm
            go_wp2_with fail
            go_ret2
            exact ⟨by rw [refR_n HL.out HB.out]; rfl, HK.out⟩
          · by_cases h57 : (57 : Int) < (c.toNat : Int)
            · have HB := hx (hr.bad hc hnm (by omega))
              rw [restR_zero] at HB
              clear hr hk hi hlt hc hnm
              go_wp2_with fail
              go_ret2
              exact ⟨by rw [refR_n HL.out HB.out]; rfl, HK.out⟩
            · have HX := hx (hr.next hc hnm (by omega))
              have HLT := hx hlt
              have hww : ∀ z, wrap64 z = w64 z := by intro z; unfold wrap64 w64; omega
              have HWW := hx hww
              clear hr hk hi hlt hc hnm hww
              go_wp2_with fail
              go_roundw
              case rel => exact ⟨_, i + 1, HLT.out, by rw [HWW.out, HWW.out], rfl, HX.out, HK.out⟩
              case measure =>
                simp only [intOf]
                have h := HLT.out
                omega
      · have hi0 : ((i : Int) == 0) = false := by simp; omega
        have hnm : ¬ (i = 0 ∧ c = 45) := fun h => hz h.1
        clear hz
        have HNM := hx hnm
        by_cases h48 : (c.toNat : Int) < 48
        · have HB := hx (hr.bad hc hnm (by omega))
          rw [restR_zero] at HB
          clear hr hk hi hlt hc hnm
          go_wp2_with fail
          go_ret2
          exact ⟨by rw [refR_n HL.out HB.out]; rfl, HK.out⟩
        · by_cases h57 : (57 : Int) < (c.toNat : Int)
          · have HB := hx (hr.bad hc hnm (by omega))
            rw [restR_zero] at HB
            clear hr hk hi hlt hc hnm
            go_wp2_with fail
            go_ret2
            exact ⟨by rw [refR_n HL.out HB.out]; rfl, HK.out⟩
          · have HX := hx (hr.next hc hnm (by omega))
            have HLT := hx hlt
            have hww : ∀ z, wrap64 z = w64 z := by intro z; unfold wrap64 w64; omega
            have HWW := hx hww
            clear hr hk hi hlt hc hnm hww
            go_wp2_with fail
            go_roundw
            case rel => exact ⟨_, i + 1, HLT.out, by rw [HWW.out, HWW.out], rfl, HX.out, HK.out⟩
            case measure =>
              simp only [intOf]
              have h := HLT.out
              omega
    · have hil : ¬ (i : Int) < (l.length : Int) := by omega
      have hin := hr.2
      have e : i = l.length := by omega
      have HD := hx ((show RgI l l.length n by rw [← e]; exact hr).done HL.out.1)
      clear e
      rw [restR_zero] at HD
      have HW := hx (show wrap64 (-n) = w64 (-n) by unfold wrap64 w64; omega)
      obtain ⟨c, hc⟩ : ∃ c, l[0]? = some c := ⟨_, List.getElem?_eq_getElem (List.length_pos_iff.2 HL.out.1)⟩
      have hhd : l.head? = some c := by rw [List.head?_eq_getElem?]; exact hc
      by_cases h45 : c = 45
      · subst h45
        have HNU := hx (rnum_any n wr hin)
        have hix : (Instr.index 9 (txt l) (.int .i64 0)).run Tryd.prog wr = .ok (.int .u8 45) wr := idx_txt (i := 0) (c := 45) hc wr
        have HHD := hx hhd
        clear hr hk hi hlt hin hc hhd
        go_wp2_with (go_at_call 11; refine HNU.out.mono ?_; rintro e w1 ⟨rfl, hk1⟩; have HK1 := hx hk1; clear hk1)
        · rename_i h
          have hne : numL n ≠ l := by simpa using h
          go_ret2
          exact ⟨by rw [refR_m HL.out HHD.out HD.out, if_neg hne]; rfl, HK.out.trans1 HK1.out⟩
        · rename_i h
          have hne : numL n = l := by simpa using h
          go_ret2
          exact ⟨by rw [refR_m HL.out HHD.out HD.out, if_pos hne]; rfl, HK.out.trans1 HK1.out⟩
      · have hcn : (c.toNat : Int) ≠ 45 := by intro h; apply h45; apply UInt8.toNat_inj.1; show c.toNat = 45; omega
        have HNU := hx (rnum_any (wrap64 (-n)) wr (by rw [HW.out]; exact w64_in _))
        have hix : (Instr.index 9 (txt l) (.int .i64 0)).run Tryd.prog wr = .ok (.int .u8 (c.toNat : Int)) wr := idx_txt (i := 0) hc wr
        have HHD := hx (show ¬ l.head? = some 45 by rw [hhd]; intro h; simp only [Option.some.injEq] at h; exact h45 h)
        clear hr hk hi hlt hin hc hhd h45
        go_wp2_with (go_at_call 11; refine HNU.out.mono ?_; rintro e w1 ⟨rfl, hk1⟩; have HK1 := hx hk1; clear hk1)
        · rename_i h
          have hne : numL (wrap64 (-n)) ≠ l := by simpa using h
          go_ret2
          exact ⟨by rw [refR_p HL.out HHD.out HD.out, ← HW.out, if_neg hne]; rfl, HK.out.trans1 HK1.out⟩
        · rename_i h
          have hne : numL (wrap64 (-n)) = l := by simpa using h
          go_ret2
          exact ⟨by rw [refR_p HL.out HHD.out HD.out, ← HW.out, if_pos hne]; rfl, HK.out.trans1 HK1.out⟩
end Go.Proofs.YtdfbofkdlgfblaaDoor
