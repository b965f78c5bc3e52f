/- The document's Decode. Fits. -/
import Derived.Test.YtjgnngnknhkpmaaDec
namespace Go.Proofs.Ytjgnngnknhkpmaa
open Go Go.RowKit
theorem srt_ex {N : Nat} {L : List Sd} (hg : Good N L) : ∃ S, S.Perm L ∧ Asc S := by
  let le : Sd → Sd → Bool := fun a b => decide (a.x ≤ b.x)
  refine ⟨L.mergeSort le, List.mergeSort_perm L le, ?_⟩
  have h1 : (L.mergeSort le).Pairwise fun a b => le a b = true := List.pairwise_mergeSort (fun a b c h1 h2 => by simp only [le, decide_eq_true_eq] at *; omega) (fun a b => by simp only [le, Bool.or_eq_true, decide_eq_true_eq]; omega) L
  have h2 : ((L.mergeSort le).map (·.x)).Nodup := ((List.mergeSort_perm L le).map _).nodup_iff.2 (good_nodup hg)
  rw [List.Nodup, List.pairwise_map] at h2
  refine (h1.and h2).imp ?_
  intro a b h
  have h3 : a.x ≤ b.x := by simpa [le] using h.1
  have h4 : a.x ≠ b.x := h.2
  omega
theorem lea_cho {N k n : Nat} {L : List Sd} (hg : Good N L) (hN : N ≤ 255) (hk : (lea L n).length = k) : lea L n = cho k L := by
  obtain ⟨S, hp, hs⟩ := srt_ex hg
  rw [cho, lea_255 hg hN hp hs]
  exact lea_take hp hs (fun s h => (good_bound hg s h).1) hk
theorem cho_ok {N k n : Nat} {L : List Sd} (hg : Good N L) (hN : N ≤ 255) (hk : k ≤ L.length) (hE : EqL (byn L L.length)) (hO : ∀ s ∈ L, Oct s.l) (hn : (rw (byn L L.length) 0).length = n) : Chs N k n L (cho k L) := by
  obtain ⟨S, hp, hs⟩ := srt_ex hg
  rw [cho, lea_255 hg hN hp hs]
  exact chs_of hp hs (good_bound hg) hk (fun s h => by rw [← hn]; exact eql_len hE s h) hO
theorem decR_step (k n : Nat) (A : List Sd) (i : Nat) : decR k n A (i + 1) = decR k n A i ++ [mulRow n (bys A) (wts (pls A) i) k] := tab_push _ _
theorem decR_len (k n : Nat) (A : List Sd) (i : Nat) : (decR k n A i).length = i := tab_len _ _
set_option maxRecDepth 100000 in
set_option maxHeartbeats 800000 in
theorem rdec_bad (k m c2 q : Nat) (a2 : Option Addr) (L : List Sd) (w : World) (h1 : 1 ≤ k) (hkm : k + m ≤ 255) (hS : Sh w a2 L) (hL : L.length ≤ 1000) (hq : ChkP k (k + m) L q) (hq0 : q ≠ 0) :
    Calls Try.prog 21 #[.int .i64 k, .int .i64 m, .slice a2 L.length c2] w fun e w' => e = .returned (.tuple #[.slice none 0 0, .int .i64 (q : Int)]) ∧ Kept [] w w' := by
  have HCK := hx (show Calls Try.prog 41 #[.int .i64 k, .int .i64 m, .slice a2 L.length c2] w fun e w' => e = .returned (.int .i64 (q : Int)) ∧ Kept [] w w' from (rcheck_any k m c2 a2 L w h1 hkm hS hL).mono (by
    rintro e w' ⟨p, h1, h2, h3⟩
    rw [h2.one hq] at h1
    exact ⟨h1, h3⟩))
  have hnn : ((q : Int) != 0) = true := bne_iff_ne.2 (by omega)
  clear hS hq
  go_enter Try.func21, Try.ntmps21
  go_wp2_with fail
  refine HCK.out.mono ?_
  rintro e w1 ⟨rfl, hk1⟩
  have K1 := hx hk1
  clear hk1
  go_wp2_with fail
  go_ret2
  exact ⟨rfl, K1.out⟩
set_option maxRecDepth 100000 in
set_option maxHeartbeats 8000000 in
theorem rdec_good (k m c2 n : Nat) (a2 : Option Addr) (L : List Sd) (w : World) (h1 : 1 ≤ k) (hkm : k + m ≤ 255) (hS : Sh w a2 L) (hL : L.length ≤ 1000)
    (hO : ∀ s ∈ L, Oct s.l) (hG : Good (k + m) L) (hkL : k ≤ L.length) (hE : EqL (byn L L.length)) (hn : (rw (byn L L.length) 0).length = n) :
    Calls Try.prog 21 #[.int .i64 k, .int .i64 m, .slice a2 L.length c2] w fun e w' => ∃ a c, e = .returned (.tuple #[.slice a k c, .int .i64 0]) ∧ Cs w' a (decR k n (cho k L) k) ∧ Kept [] w w' := by
  have HCK := hx (show Calls Try.prog 41 #[.int .i64 k, .int .i64 m, .slice a2 L.length c2] w fun e w' => e = .returned (.int .i64 0) ∧ Kept [] w w' from (rcheck_any k m c2 a2 L w h1 hkm hS hL).mono (by
    rintro e w' ⟨p, h1, h2, h3⟩
    rw [h2.one (.inr (.inr (.inr ⟨hG, hkL, hE, rfl⟩)))] at h1
    exact ⟨h1, h3⟩))
  have hch := cho_ok (k := k) hG hkm hkL hE hO hn
  have HLE := hx (fun w1 (hk : Kept [] w w1) => show Calls Try.prog 23 #[.int .i64 k, .slice a2 L.length c2] w1 fun e w' => ∃ a c a' c', e = .returned (.tuple #[.slice a k c, .slice a' k c']) ∧ In w' a (pls (cho k L)) ∧ Cs w' a' (bys (cho k L)) ∧ Kept [] w1 w' from (least_any k (k + m) c2 a2 L w1 hkL hkm (hS.kept hk) hL hG).mono (by
    rintro e w' ⟨a, c, a', c', nn, h1, h2, h3, h4, h5⟩
    rw [lea_cho hG hkm h2] at h3 h4
    exact ⟨a, c, a', c', h1, h3, h4, h5⟩))
  have hn2 : n ≤ 1200 := by rw [← hn]; exact hE.1
  have hpl : (pls (cho k L)).length = k := by rw [pls_len, hch.len]
  have HAT := hx (fun w9 al a9 (q c3 c4 : Nat) (hq : q < 256) (hI : In w9 al (pls (cho k L))) (hC : Cs w9 a9 (bys (cho k L))) => show Calls Try.prog 24 #[.slice al k c3, .slice a9 k c4, .int .i64 q] w9 fun e w' => ∃ g, e = .returned (.slice (some ⟨g, 0, none⟩) n n) ∧ Blk w' g ((mulRow n (bys (cho k L)) (wts (pls (cho k L)) q) k).map bn) 5 ∧ w9.heap.size ≤ g ∧ Kept [] w9 w' by
    have h := rat_any al a9 (pls (cho k L)) c3 c4 q n (bys (cho k L)) w9 hI (fun x hx1 => by have := hch.lt x hx1; omega) (by rw [hpl]; exact h1) (by rw [hpl]; omega) hq (by rw [hpl]; exact hch.mt) hC (by omega)
    rw [hpl] at h
    exact h)
  have HR := hx (fun i => decR_step k n (cho k L) i)
  have HRL := hx (fun i => decR_len k n (cho k L) i)
  have HML := hx (fun x => (mulRow_ok hch.mt x k (Nat.le_refl _)).1)
  have HZ := hx (show decR k n (cho k L) 0 = [] from rfl)
  have hki : (k : Int) ≤ 255 := by omega
  have hk1 : (1 : Int) ≤ (k : Int) := by omega
  clear hS hO hG hE hn hkm hkL hch hpl hn2
  generalize L.length = len at *
  go_enter Try.func21, Try.ntmps21
  go_wp2_with fail
  refine HCK.out.mono ?_
  rintro e w1 ⟨rfl, hk1⟩
  have K1 := hx hk1
  have HLE1 := hx (HLE.out w1 hk1)
  clear HCK hk1 HLE
  go_wp2_with fail
  refine HLE1.out.mono ?_
  rintro e w2 ⟨ap, cp, aq, cq, rfl, hin, hcs, hk2⟩
  have K2 := hx (K1.out.trans0 hk2)
  have HI := hx hin
  have HC := hx hcs
  clear HLE1 hk2 hin hcs K1
  go_wp2_with fail
  go_loopw [11, 12] (fun ov iv wr => ∃ (i : Nat) (u : Value), i ≤ k ∧ iv = .int .i64 i ∧ u = ov ∧ Cl w2.heap.size w2.heap.size wr u (decR k n (cho k L) i) ∧ Kept [] w2 wr) (fun _ iv _ => k - (intOf iv).toNat)
  case atStart => exact ⟨0, _, by omega, rfl, rfl, by rw [HZ.out]; exact Cl.nil _ _ _, Kept.refl _ _⟩
  case round =>
    obtain ⟨i, u, hi, rfl, rfl, ho, hk⟩ := hrel
    have HO := hx ho
    have HK := hx hk
    clear ho hk
    by_cases hlt : i < k
    · have hj : (i : Int) < (k : Int) := by omega
      have HE := hx (HR.out i)
      have HL := hx (HRL.out i)
      have HA2 := hx (HAT.out wr ap aq i cp cq (by omega) (HI.out.kept HK.out) (HC.out.kept HK.out))
      have HM := hx (HML.out (wts (pls (cho k L)) i))
      generalize mulRow n (bys (cho k L)) (wts (pls (cho k L)) i) k = row at *
      go_wp2_with fail
      refine HA2.out.mono ?_
      rintro e w3 ⟨g, rfl, hbg, hg0, hk3⟩
      have HK3 := hx (HK.out.trans0 hk3)
      have HB3 := hx hbg
      obtain ⟨sl, hs1, hs2, hs3⟩ := (HO.out.kept hk3).rows
      have HS1 := hx hs1
      have HS2 := hx hs2
      have HS3 := hx hs3
      clear hbg hg0 hk3 HK HO HA2 hs1 hs2 hs3
      go_wp2_with (at_builtin; refine wpList_app rfl (.tmp 31) (.tmp 36) 22 rfl w2.heap.size 39 (.slice none 0 0) 1 24 infoBs Try.underlying22 rfl (by omega) u sl.length sl rfl (World.ownsRow.alloc HS2.out _) (some ⟨_, 0, none⟩) 1 1 [.slice (some ⟨g, 0, none⟩) n n] rfl rfl (by simp) (by omega) (blk_news (Blk.new _ [.slice (some ⟨g, 0, none⟩) n n] 39)) (one_sl _ _ _) (by unfold maxLen; have := HS1.out; have := HL.out; omega) (by have := HS1.out; have := HL.out; omega) (HK3.out.alloc _).size ?_; intro u2 w8 ho8 hg8; have HK8 := hx ((HK3.out.alloc _).grown hg8 (fun q hq => .inr (HS2.out.lt q hq).1)); have HO8 := hx (Cl.push HS1.out (World.ownsRow.alloc HS2.out _) (fun j hj => by obtain ⟨ai, ci, p, q⟩ := HS3.out j hj; exact ⟨ai, ci, p, q.kept ((Kept.refl [] _).alloc _)⟩) (Nat.le_refl _) (Br.ofBlk (HB3.out.alloc _)) HM.out.symm ho8 hg8); clear ho8 hg8 HS2 HS3 HK3)
      go_wp2
      go_roundw
      case rel => exact ⟨i + 1, u2, by omega, by go_num, rfl, by rw [HE.out]; exact HO8.out, HK8.out⟩
      case measure => simp [intOf] <;> omega
    · obtain rfl : i = k := by omega
      obtain ⟨ax, cx, hv, _, hcs⟩ := HO.out.form
      rw [HRL.out] at hv
      subst hv
      have HCS := hx hcs
      have KE := hx (K2.out.trans0 HK.out)
      clear hcs
      go_wp2_with fail
      go_ret2
      exact ⟨_, _, rfl, HCS.out, KE.out⟩
end Go.Proofs.Ytjgnngnknhkpmaa
namespace Go.Proofs.Ytjgnngnknhkpmaa
open Go Go.RowKit
theorem getD_ext {l1 l2 : List Nat} (h : l1.length = l2.length) (h2 : ∀ j, j < l1.length → l1.getD j 0 = l2.getD j 0) : l1 = l2 := by
  apply List.ext_getElem?
  intro i
  by_cases hi : i < l1.length
  · rw [getD_some 0 hi, getD_some 0 (by omega), h2 i hi]
  · rw [List.getElem?_eq_none (by omega), List.getElem?_eq_none (by omega)]
set_option maxRecDepth 100000 in
set_option maxHeartbeats 1600000 in
theorem sleq_any (a1 a2 : Option Addr) (c1 c2 : Nat) (l1 l2 : List Nat) (w : World) (h1 : Bn w a1 l1) (h2 : Bn w a2 l2) (h3 : l1.length ≤ 1000000) (h4 : l2.length ≤ 1000000) (o1 : Oct l1) (o2 : Oct l2) :
    Calls Try.prog 42 #[.slice a1 l1.length c1, .slice a2 l2.length c2] w fun e w' => ∃ b : Bool, e = .returned (.bool b) ∧ (b = true ↔ l1 = l2) ∧ Kept [] w w' := by
  generalize hPP : (fun (e : Ending) (w' : World) => ∃ b : Bool, e = .returned (.bool b) ∧ (b = true ↔ l1 = l2) ∧ Kept [] w w') = PP
  have HT := hx (fun (h : l1 = l2) w' (hk : Kept [] w w') => show PP (.returned (.bool true)) w' by rw [← hPP]; exact ⟨true, rfl, by simp [h], hk⟩)
  have HF := hx (fun (h : ¬ l1 = l2) w' (hk : Kept [] w w') => show PP (.returned (.bool false)) w' by rw [← hPP]; exact ⟨false, rfl, by simp [h], hk⟩)
  have HL := hx (fun (h : l1 = l2) => congrArg List.length h)
  have HE := hx (fun (h : l1.length = l2.length) (h2 : ∀ j, j < l1.length → l1.getD j 0 = l2.getD j 0) => getD_ext h h2)
  have HN := hx (fun j (h : ¬ l1.getD j 0 = l2.getD j 0) (h2 : l1 = l2) => h (by rw [h2]))
  have H1 := hx (fun i (hi : i < l1.length) => h1 i hi)
  have H2 := hx (fun i (hi : i < l2.length) => h2 i hi)
  have O1 := hx (fun i => o1.at i)
  have O2 := hx (fun i => o2.at i)
  have h3i : (l1.length : Int) ≤ 1000000 := by omega
  have h4i : (l2.length : Int) ≤ 1000000 := by omega
  clear hPP h1 h2 o1 o2
  generalize l1.length = n at *
  generalize l2.length = m at *
  by_cases hnm : n = m
  · subst hnm
    have hnn : ((n : Int) != (n : Int)) = false := by simp
    go_enter Try.func42, Try.ntmps42
    go_wp2_with fail
    go_loopw [13] (fun iv wr => ∃ i : Nat, i ≤ n ∧ iv = .int .i64 i ∧ (∀ j, j < i → l1.getD j 0 = l2.getD j 0) ∧ Kept [] w wr) (fun iv _ => n - (intOf iv).toNat)
    case atStart => exact ⟨0, by omega, rfl, fun j hj => absurd hj (by omega), Kept.refl _ _⟩
    case round =>
      obtain ⟨i, hi, rfl, hall, hk⟩ := hrel
      have HA := hx hall
      have HK := hx hk
      clear hall
      by_cases hlt : i < n
      · have hji : (i : Int) < (n : Int) := by omega
        obtain ⟨b1, p1, rfl, e1⟩ := H1.out i hlt
        obtain ⟨b2, p2, rfl, e2⟩ := H2.out i hlt
        have f1 := kept_cell hk e1
        have f2 := kept_cell hk e2
        have hkd : Kept [] wr wr.drew := (Kept.refl [] wr).drew
        have g1 := kept_cell hkd f1
        have g2 := kept_cell hkd f2
        have q1 := O1.out i
        have q2 := O2.out i
        unfold bn at f1 f2 g1 g2
        by_cases hq : l1.getD i 0 = l2.getD i 0
        · have HQ := hx hq
          rw [hq] at f1 g1
          clear hq e1 e2 hk hkd
          generalize hgy : l2.getD i 0 = y at *
          have HY := hx hgy
          clear hgy
          have hyy : ((y : Int) != (y : Int)) = false := by simp
          go_upto_region 6 with fail
          go_region
          all_goals
            go_wp2_with fail
            go_roundw
            case rel => exact ⟨i + 1, by omega, by go_num, fun j hj => by
              by_cases hj2 : j < i
              · exact HA.out j hj2
              · obtain rfl : j = i := by omega
                exact HQ.out.trans HY.out.symm, HK.out.drew⟩
            case measure => simp [intOf] <;> omega
        · have HQ := hx (HF.out (HN.out i hq) wr.drew HK.out.drew)
          have hyy : (((l1.getD i 0 : Nat) : Int) != ((l2.getD i 0 : Nat) : Int)) = true := bne_iff_ne.2 (by omega)
          clear hq e1 e2 hk hkd
          generalize l1.getD i 0 = x at *
          generalize l2.getD i 0 = y at *
          go_upto_region 6 with fail
          go_region
          all_goals
            go_wp2_with fail
            try go_ret
            exact HQ.out
      · obtain rfl : i = n := by omega
        have HQ := hx (HT.out (HE.out trivial HA.out) wr HK.out)
        clear hk
        go_wp2_with fail
        try go_ret
        exact HQ.out
  · have hnn : ((n : Int) != (m : Int)) = true := bne_iff_ne.2 (by omega)
    have HQ := hx (HF.out (fun h => hnm (HL.out h)) w (Kept.refl _ _))
    go_enter Try.func42, Try.ntmps42
    go_wp2_with fail
    try go_ret
    exact HQ.out
/-- All are values of the one polynomial. -/
def FitB (k n : Nat) (L : List Sd) : Prop := ∀ i, i < L.length → mulRow n (bys (cho k L)) (wts (pls (cho k L)) (sd L i).x.toNat) k = (sd L i).l
set_option maxRecDepth 100000 in
set_option maxHeartbeats 800000 in
theorem fits_bad (t g gr k m c2 q : Nat) (R : List (List Nat)) (a2 : Option Addr) (L : List Sd) (w : World) (s : Cod w t g gr k m R) (h1 : 1 ≤ k) (hkm : k + m ≤ 255) (hS : Sh w a2 L) (hL : L.length ≤ 1000) (hq : ChkP k (k + m) L q) (hq0 : q ≠ 0) :
    Calls Try.prog 22 #[.pointer (some ⟨g, 0, none⟩), .slice a2 L.length c2] w fun e w' => e = .returned (.tuple #[.bool false, .int .i64 (q : Int)]) ∧ Kept [] w w' := by
  have HDE := hx (dec_bad t g gr k m c2 q R a2 L w s h1 hkm hS hL hq hq0)
  have hnn : ((q : Int) != 0) = true := bne_iff_ne.2 (by omega)
  clear s hS hq
  go_enter Try.func22, Try.ntmps22
  go_wp2_with fail
  refine HDE.out.mono ?_
  rintro e w1 ⟨rfl, hk1⟩
  have K1 := hx hk1
  clear hk1
  go_wp2_with fail
  go_ret2
  exact ⟨rfl, K1.out⟩
set_option maxRecDepth 100000 in
set_option maxHeartbeats 8000000 in
theorem fits_good (t g gr k m c2 n : Nat) (R : List (List Nat)) (a2 : Option Addr) (L : List Sd) (w : World) (s : Cod w t g gr k m R) (h1 : 1 ≤ k) (hkm : k + m ≤ 255) (hS : Sh w a2 L) (hL : L.length ≤ 1000)
    (hO : ∀ s ∈ L, Oct s.l) (hG : Good (k + m) L) (hkL : k ≤ L.length) (hE : EqL (byn L L.length)) (hn : (rw (byn L L.length) 0).length = n) :
    Calls Try.prog 22 #[.pointer (some ⟨g, 0, none⟩), .slice a2 L.length c2] w fun e w' => ∃ b : Bool, e = .returned (.tuple #[.bool b, .int .i64 0]) ∧ (b = true ↔ FitB k n L) ∧ Kept [] w w' := by
  generalize hPP : (fun (e : Ending) (w' : World) => ∃ b : Bool, e = .returned (.tuple #[.bool b, .int .i64 0]) ∧ (b = true ↔ FitB k n L) ∧ Kept [] w w') = PP
  have hch := cho_ok (k := k) hG hkm hkL hE hO hn
  obtain ⟨I, _, _, _, hrw, _⟩ := decoded (s.rows hkm) hkm hch
  have hD := decR_mt k n hch.mt
  have hn2 : n ≤ 1200 := by rw [← hn]; exact hE.1
  have hMM := mulM_mt (s.rows hkm).mt.rows hD
  have HT := hx (fun (h : FitB k n L) w' (hk : Kept [] w w') => show PP (.returned (.tuple #[.bool true, .int .i64 0])) w' by rw [← hPP]; exact ⟨true, rfl, by simp [h], hk⟩)
  have HF := hx (fun (h : ¬ FitB k n L) w' (hk : Kept [] w w') => show PP (.returned (.tuple #[.bool false, .int .i64 0])) w' by rw [← hPP]; exact ⟨false, rfl, by simp [h], hk⟩)
  have HFB := hx (show FitB k n L ↔ ∀ i, i < L.length → mulRow n (bys (cho k L)) (wts (pls (cho k L)) (sd L i).x.toNat) k = (sd L i).l from Iff.rfl)
  have HDE := hx (dec_good t g gr k m c2 n R a2 L w s h1 hkm hS hL hO hG hkL hE hn)
  have HRW := hx hrw
  have HMM := hx hMM
  have HML := hx hMM.rows
  have HLN := hx (fun i (hi : i < L.length) => (⟨hO _ (sd_mem hi), by rw [eql_len hE _ (sd_mem hi), hn]⟩ : Oct (sd L i).l ∧ (sd L i).l.length = n))
  have HX0 := hx (fun i (hi : i < L.length) => good_bound hG (sd L i) (sd_mem hi))
  have HAP := hx (fun (a : Option Addr) w9 (hk : Kept [] w w9) (hC : Cs w9 a (decR k n (cho k L) k)) => apply_any t gr (k + m) k ((k + m) * k) n k R (decR k n (cho k L) k) [] a w9 (hk.blk s.tb (by simp)) (hk.blk s.r (by simp)) s.mt hkm (by omega) h1 (Nat.le_refl _) hD (by omega) hC)
  have HS := hx s
  have HSH := hx (fun i (hi : i < L.length) => hS i hi)
  have hLi : (L.length : Int) ≤ 1000 := by omega
  have hki : (k : Int) ≤ 255 := by omega
  have hk1 : (1 : Int) ≤ (k : Int) := by omega
  obtain ⟨N, hN⟩ : ∃ N, k + m = N := ⟨_, rfl⟩
  have hN2 : N ≤ 255 := by omega
  have HN2 := hx hn2
  rw [hN] at HRW HMM HML HX0 HAP hkm
  have HNN := hx hN
  clear hPP hch hrw hD hMM hn s hS hO hG hkL hE h1 hn2 hN
  unfold mv at HAP
  generalize decR k n (cho k L) k = D at *
  generalize hlen : L.length = len at *
  have HLEN := hx hlen
  clear hlen
  go_enter Try.func22, Try.ntmps22
  go_wp2_with fail
  refine HDE.out.mono ?_
  rintro e w1 ⟨ad, rfl, hcd, hk1⟩
  have K1 := hx hk1
  have HAP1 := hx (fun w9 (hk : Kept [] w1 w9) => HAP.out ad w9 (K1.out.trans0 hk) (hcd.kept hk))
  have S1 := hx (HS.out.kept hk1)
  have hkd : Kept [] w1 w1.drew := (Kept.refl [] w1).drew
  have e2 := S1.out.c.cell (i := 2) rfl
  have e3 := S1.out.c.cell (i := 3) rfl
  have e4 := S1.out.c.cell (i := 4) rfl
  have e5 := S1.out.c.cell (i := 5) rfl
  rw [HNN.out] at e3 e5
  have f2 := kept_cell hkd e2
  have f3 := kept_cell hkd e3
  have f4 := kept_cell hkd e4
  have f5 := kept_cell hkd e5
  clear hk1 hcd HDE HAP
  go_upto_region 4 with fail
  go_region_with (go_at_call 32; refine (HAP1.out _ (by assumption)).mono ?_; rintro e w9 ⟨ar, rfl, hcs9, hk9⟩; have KK9 : Kept [] w1 w9 := Kept.trans0 (by assumption) hk9; have K9 := hx (K1.out.trans0 KK9); have C9 := hx hcs9; clear hcs9 hk9 KK9)
  all_goals
    clear e2 e3 e4 e5 f2 f3 f4 f5 hkd HAP1 S1
    generalize hM : mulM n R D = M at *
    have HM := hx hM
    clear hM
    go_wp2_with fail
    go_loopw [36] (fun iv wr => ∃ i : Nat, i ≤ len ∧ iv = .int .i64 i ∧ (∀ j, j < i → mulRow n (bys (cho k L)) (wts (pls (cho k L)) (sd L j).x.toNat) k = (sd L j).l) ∧ Kept [] w9 wr) (fun iv _ => len - (intOf iv).toNat)
    case atStart => exact ⟨0, by omega, rfl, fun j hj => absurd hj (by omega), Kept.refl _ _⟩
    case round =>
      obtain ⟨i, hi, rfl, hall, hk⟩ := hrel
      have HA := hx hall
      have HK := hx hk
      clear hall
      by_cases hlt : i < len
      · have hii : (i : Int) < (len : Int) := by omega
        obtain ⟨b, off, rfl, hc1, hc2, hbn⟩ := HSH.out i hlt
        have hk9 := K9.out.trans0 hk
        have e1 := kept_cell hk9 hc1
        have e2 := kept_cell hk9 hc2
        obtain ⟨hx0, hx1⟩ := HX0.out i hlt
        have HFI := hx (fun h : FitB k n L => (HFB.out.1 h) i hlt)
        obtain ⟨y, hy⟩ := Int.eq_ofNat_of_zero_le hx0
        have hyN : y < N := by omega
        have HRY := hx (HRW.out y hyN)
        have hty : (sd L i).x.toNat = y := by omega
        rw [hty] at HFI
        have HTY := hx hty
        rw [hy] at e1
        have hka := (Kept.refl [] wr).alloc (.cells #[.int .i64 (y : Int), .slice (sd L i).a (sd L i).l.length (sd L i).c] 47)
        have HBN := hx ((hbn.kept hk9).kept hka)
        have HK1 := hx (HK.out.trans0 hka)
        have BS1 := hx (Blk.new wr [.int .i64 (y : Int), .slice (sd L i).a (sd L i).l.length (sd L i).c] 47)
        have HLO := hx (HLN.out i hlt)
        obtain ⟨br, orr, ai, ci, har, hci, hbi⟩ := C9.out y (by rw [HML.out]; exact hyN)
        subst har
        have g1 := kept_cell HK1.out hci
        have HBI := hx (hbi.kept HK1.out)
        have HMO := hx (⟨HMM.out.rowOct hyN, HMM.out.len hyN⟩ : Oct (rw M y) ∧ (rw M y).length = n)
        rw [HMO.out.2] at g1
        have HLL := hx HLO.out.2
        clear hc1 hc2 hbn hk hk9 hy hx0 hx1 hty hka hci hbi HK
        generalize (sd L i).a = sa at *
        generalize (sd L i).c = sc at *
        generalize hsl : (sd L i).l = sl2 at *
        have HSL := hx hsl
        clear hsl
        rw [HLL.out] at e2 BS1 HK1 HBN HBI g1
        go_upto_region 8 with fail
        clear e1 e2
        generalize wr.heap.size = sx at *
        generalize wr.alloc (.cells #[.int .i64 (y : Int), .slice sa n sc] 47) = wq at *
        have x0 := BS1.out.cell (i := 0) rfl
        have x1 := BS1.out.cell (i := 1) rfl
        have hkd : Kept [] wq wq.drew := (Kept.refl [] wq).drew
        have y0 := kept_cell hkd x0
        have y1 := kept_cell hkd x1
        have g2 := kept_cell hkd g1
        have HEQ := hx (fun w9 (hk : Kept [] wq w9) => show Calls Try.prog 42 #[.slice ai n ci, .slice sa n sc] w9 fun e w' => ∃ b : Bool, e = .returned (.bool b) ∧ (b = true ↔ rw M y = sl2) ∧ Kept [] w9 w' by
          have h := sleq_any ai sa ci sc (rw M y) sl2 w9 (HBI.out.kept hk) (HBN.out.kept hk) (by rw [HMO.out.2]; have := HN2.out; omega) (by rw [HLL.out]; have := HN2.out; omega) HMO.out.1 HLO.out.1
          rw [HMO.out.2, HLL.out] at h
          exact h)
        go_region_with (go_at_call 42; refine (HEQ.out _ (by assumption)).mono ?_; rintro e w8 ⟨bb, rfl, hbb, hk8⟩; have KK8 : Kept [] wq w8 := Kept.trans0 (by assumption) hk8; have K8 := hx (HK1.out.trans0 KK8); have HB8 := hx hbb; clear hbb hk8 KK8)
        all_goals
          cases bb
          · have HQ := hx (HF.out (fun h => by
              have h1 := HFI.out h
              rw [← HRY.out] at h1
              exact absurd (HB8.out.2 h1) (by decide)) w8 (K9.out.trans0 K8.out))
            go_wp2_with fail
            try go_ret2
            exact HQ.out
          · go_wp2_with fail
            go_roundw
            case rel => exact ⟨i + 1, by omega, by go_num, fun j hj => by
              by_cases hj2 : j < i
              · exact HA.out j hj2
              · have e : j = i := by omega
                rw [e, HTY.out, HSL.out, ← HRY.out]
                exact HB8.out.1 rfl, K8.out⟩
            case measure => simp [intOf] <;> omega
      · obtain rfl : i = len := by omega
        have HQ := hx (HT.out (HFB.out.2 HA.out) wr (K9.out.trans0 hk))
        clear hk
        go_wp2_with fail
        try go_ret2
        exact HQ.out
end Go.Proofs.Ytjgnngnknhkpmaa
