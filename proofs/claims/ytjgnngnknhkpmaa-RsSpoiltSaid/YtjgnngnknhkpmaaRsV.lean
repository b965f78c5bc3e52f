/- What both make; RsEncodes. -/
import Derived.Test.YtjgnngnknhkpmaaRsW
namespace Go.Proofs.Ytjgnngnknhkpmaa
open Go Go.RowKit
theorem rwgt {k m : Nat} {R : List (List Nat)} (h : Rows k m R) (hkm : k + m ≤ 255) {x j : Nat} (hx1 : x < k + m) (hj : j < k) : (rw R x).getD j 0 = wgt (List.range k) j x := by
  have hr : Oct (List.range k) := fun y hy => by rw [List.mem_range] at hy; omega
  refine toF_inj ((h.mt.rowOct hx1).at j) (wgt_lt _ _ _) ?_
  rw [wgt_wt (List.range k) hr List.nodup_range j x (by rw [List.length_range]; exact hj) (by omega)]
  exact h.wt hkm hx1 hj
theorem row_wts {k m : Nat} {R : List (List Nat)} (h : Rows k m R) (hkm : k + m ≤ 255) {x : Nat} (hx1 : x < k + m) : rw R x = wts (List.range k) x := by
  have h1 := h.mt.len hx1
  rw [wts, List.length_range]
  refine tab_eq h1 fun j hj => ?_
  rw [getD_some 0 (by omega), rwgt h hkm hx1 hj]
theorem mulM_enc {k m n : Nat} {R ls : List (List Nat)} (h : Rows k m R) (hkm : k + m ≤ 255) (hl : Mt k n ls) : mulM n (pickM R (idx k m)) ls = encR k n ls m := by
  have h1 : (pickM R (idx k m)).length = m := by rw [pickM, List.length_map, idx_len]
  refine tab_eq (by rw [mulM, List.length_map, h1]) fun i hi => ?_
  have h2 := mul_rw n (pickM R (idx k m)) ls (i := i) (by omega)
  rw [pick_rw R (idx k m) (by rw [idx_len]; exact hi), idx_at hi, row_wts h hkm (by omega), hl.rows] at h2
  rw [← h2]
  exact getD_some [] (by rw [mulM, List.length_map, h1]; exact hi)
theorem Cod.rows {w : World} {t g gr k m : Nat} {R : List (List Nat)} (s : Cod w t g gr k m R) (hkm : k + m ≤ 255) : Rows k m R := by
  obtain ⟨R2, h1, h2⟩ := genRows_ok k m hkm
  obtain rfl : R = R2 := Option.some.inj (s.go.symm.trans h1)
  exact h2
set_option maxRecDepth 100000 in
set_option maxHeartbeats 800000 in
theorem renc_bad1 (k m : Int) (c2 : Nat) (ls : List (List Nat)) (a2 : Option Addr) (w : World) (hne : (ls.length : Int) ≠ k) :
    Calls Try.prog 14 #[.int .i64 k, .int .i64 m, .slice a2 ls.length c2] w fun e w' => e = .returned (.tuple #[.slice none 0 0, .int .i64 60]) ∧ w = w' := by
  generalize ls.length = q at *
  have hnn : ((q : Int) != k) = true := bne_iff_ne.2 (by omega)
  go_enter Try.func14, Try.ntmps14
  go_wp2
  go_ret2
  exact ⟨rfl, rfl⟩
set_option maxRecDepth 100000 in
set_option maxHeartbeats 800000 in
theorem renc_bad2 (k m c2 : Nat) (ls : List (List Nat)) (a2 : Option Addr) (w : World) (hl : ls.length = k) (h1 : 1 ≤ k) (hk9 : k ≤ 255) (hC : Cs w a2 ls) (hE : ¬ EqL ls) :
    Calls Try.prog 14 #[.int .i64 k, .int .i64 m, .slice a2 ls.length c2] w fun e w' => e = .returned (.tuple #[.slice none 0 0, .int .i64 61]) ∧ Kept [] w w' := by
  have HL := hx ((rlength_any a2 c2 ls w hC (by omega) (by omega)).mono (R' := fun e w' => e = .returned (.bool false) ∧ Kept [] w w') (by
    rintro e w' ⟨h2, h3⟩
    rcases h2 with h2 | h2
    · exact absurd h2.1 hE
    · exact ⟨h2.2, h3⟩))
  rw [hl] at HL ⊢
  have hnn : ((k : Int) != (k : Int)) = false := by simp
  clear hC hE hl
  go_enter Try.func14, Try.ntmps14
  go_wp2_with fail
  refine HL.out.mono ?_
  rintro e w1 ⟨rfl, hk1⟩
  have K1 := hx hk1
  clear hk1
  go_wp2
  go_ret2
  exact ⟨rfl, K1.out⟩
theorem cs_nil (w : World) (a : Option Addr) : Cs w a [] := fun i hi => absurd hi (by simp)
/-- What both give. -/
def EncB (k m : Nat) (c1 : Value) (a2 : Option Addr) (n2 c2 : Nat) (w : World) : Prop :=
  ∃ (q : Int) (ls : List (List Nat)) , (∀ w1, Kept [] w w1 → Calls Try.prog 13 #[c1, .slice a2 n2 c2] w1 fun e w' => ∃ a c, e = .returned (.tuple #[.slice a ls.length c, .int .i64 q]) ∧ Cs w' a ls ∧ Kept [] w1 w') ∧
    (∀ w1, Kept [] w w1 → Calls Try.prog 14 #[.int .i64 k, .int .i64 m, .slice a2 n2 c2] w1 fun e w' => ∃ a c, e = .returned (.tuple #[.slice a ls.length c, .int .i64 q]) ∧ Cs w' a ls ∧ Kept [] w1 w') ∧ ls.length ≤ 1000
theorem encB_any (t g gr k m c2 : Nat) (R ls : List (List Nat)) (a2 : Option Addr) (w : World) (s : Cod w t g gr k m R) (h1 : 1 ≤ k) (hkm : k + m ≤ 255) (hC : Cs w a2 ls) (ho : ∀ x ∈ ls, Oct x) :
    EncB k m (.pointer (some ⟨g, 0, none⟩)) a2 ls.length c2 w := by
  by_cases hl : ls.length = k
  · by_cases hE : EqL ls
    · obtain ⟨n, hn⟩ : ∃ n, (rw ls 0).length = n := ⟨_, rfl⟩
      have hM : Mt k n ls := ⟨hl, fun x hx => by
        obtain ⟨i, hi, rfl⟩ := List.getElem_of_mem hx
        rw [← rw_get hi, hE.2 i hi, hn], ho⟩
      have hn2 : n ≤ 1200 := by rw [← hn]; exact hE.1
      have hm : (encR k n ls m).length = m := tab_len _ _
      refine ⟨0, encR k n ls m, fun w1 hk => ?_, fun w1 hk => ?_, by omega⟩
      · refine (enc_any t g gr k m n c2 R ls a2 w1 (s.kept hk) hM h1 hkm (hC.kept hk) hE hn2).mono ?_
        rintro e w' ⟨a, h2, h3, h4⟩
        rw [mulM_enc (s.rows hkm) hkm hM] at h3
        exact ⟨a, m, by rw [hm]; exact h2, h3, h4⟩
      · refine (renc_any k m n c2 ls a2 w1 hM h1 hkm (hC.kept hk) hE hn2).mono ?_
        rintro e w' ⟨a, c, h2, h3, h4⟩
        exact ⟨a, c, by rw [hm]; exact h2, h3, h4⟩
    · refine ⟨61, [], fun w1 hk => ?_, fun w1 hk => ?_, by simp⟩
      · refine (enc_bad2 t g gr k m c2 R ls a2 w1 (s.kept hk) hl h1 (by omega) (hC.kept hk) hE).mono ?_
        rintro e w' ⟨h2, rfl⟩
        exact ⟨none, 0, h2, cs_nil _ _, Kept.refl _ _⟩
      · refine (renc_bad2 k m c2 ls a2 w1 hl h1 (by omega) (hC.kept hk) hE).mono ?_
        rintro e w' ⟨h2, h3⟩
        exact ⟨none, 0, h2, cs_nil _ _, h3⟩
  · refine ⟨60, [], fun w1 hk => ?_, fun w1 hk => ?_, by simp⟩
    · refine (enc_bad1 t g gr k m c2 R ls a2 w1 (s.kept hk) hl).mono ?_
      rintro e w' ⟨h2, rfl⟩
      exact ⟨none, 0, h2, cs_nil _ _, Kept.refl _ _⟩
    · refine (renc_bad1 k m c2 ls a2 w1 (by omega)).mono ?_
      rintro e w' ⟨h2, rfl⟩
      exact ⟨none, 0, h2, cs_nil _ _, Kept.refl _ _⟩
set_option maxRecDepth 100000 in
set_option maxHeartbeats 3200000 in
theorem law_encodes (ki mi : Int) (c2 : Nat) (a2 : Option Addr) (ls : List (List Nat)) (w : World) (hC : Cs w a2 ls) (ho : ∀ x ∈ ls, Oct x) :
    Calls Try.prog 3 #[.int .i64 ki, .int .i64 mi, .slice a2 ls.length c2] w fun e w' => e = .returned (.bool true) ∧ Kept [] w w' := by
  have HC := hx hC
  have HO := hx ho
  clear hC ho
  go_enter Try.func3, Try.ntmps3
  go_wp2_with fail
  refine (awake_any w).mono ?_
  rintro e w1 ⟨rfl, hk1⟩
  have K1 := hx hk1
  clear hk1
  go_wp2_with fail
  refine (small_any ki mi w1).mono ?_
  rintro e w2 ⟨hs, rfl⟩
  rcases hs with ⟨hs, rfl⟩ | ⟨_, rfl⟩
  · go_wp2_with fail
    refine (few_any a2 c2 ls w1 (HC.out.kept K1.out)).mono ?_
    rintro e w2 ⟨hf, rfl⟩
    rcases hf with ⟨_, rfl⟩ | rfl
    · obtain ⟨k, rfl⟩ := Int.eq_ofNat_of_zero_le (show 0 ≤ ki by have := hs.1; omega)
      obtain ⟨m, rfl⟩ := Int.eq_ofNat_of_zero_le (show 0 ≤ mi by have := hs.2.1; omega)
      have HS := hx (show 1 ≤ k ∧ k + m ≤ 255 by obtain ⟨h1, h2, h3, h4⟩ := hs; omega)
      clear hs
      go_wp2_with fail
      refine (gfnew_any w1).mono ?_
      rintro e w2 ⟨rfl, hT, hk2⟩
      have HT := hx hT
      have K2 := hx (K1.out.trans0 hk2)
      have HNW := hx (rsnew_any w1.heap.size k m w2 hT HS.out.1 HS.out.2)
      clear hT hk2 K1
      generalize w1.heap.size = t at *
      go_wp2_with fail
      refine HNW.out.mono ?_
      rintro e w3 hc
      obtain ⟨g, gr, R, rfl, hcod, hk3⟩ := cod_new HT.out HS.out.2 hc
      have K3 := hx (K2.out.trans0 hk3)
      obtain ⟨q, lz, hp, hr, hz⟩ := encB_any t g gr k m c2 R ls a2 w3 hcod HS.out.1 HS.out.2 (HC.out.kept K3.out) HO.out
      have HP := hx (hp w3 (Kept.refl _ _))
      have HR := hx hr
      have HZ := hx hz
      clear hc hcod hk3 HNW HT K2 hp hr hz
      go_wp2_with fail
      refine HP.out.mono ?_
      rintro e w4 ⟨a4, c4, rfl, hc4, hk4⟩
      have H4 := hx hc4
      have R4 := hx (HR.out w4 hk4)
      have K4 := hx (K3.out.trans0 hk4)
      clear hc4 hk4 HR HP K3
      go_wp2_with fail
      refine R4.out.mono ?_
      rintro e w5 ⟨a5, c5, rfl, hc5, hk5⟩
      have H5 := hx hc5
      have S5 := hx (same_any a4 a5 c4 c5 lz w5 (H4.out.kept hk5) hc5 HZ.out)
      have K5 := hx (K4.out.trans0 hk5)
      clear hc5 hk5 R4 K4
      go_wp2_with fail
      refine S5.out.mono ?_
      rintro e w6 ⟨rfl, hk6⟩
      have K6 := hx (K5.out.trans0 hk6)
      clear hk6
      go_wp2_with fail
      go_ret
      exact ⟨rfl, K6.out⟩
    · go_wp2_with fail
      go_ret
      exact ⟨rfl, K1.out⟩
  · go_wp2_with fail
    go_ret
    exact ⟨rfl, K1.out⟩
end Go.Proofs.Ytjgnngnknhkpmaa
