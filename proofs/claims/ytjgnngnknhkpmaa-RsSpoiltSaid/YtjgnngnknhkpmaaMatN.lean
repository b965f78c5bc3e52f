/- The program's matrices: Invert, the walk. -/
import Derived.Test.YtjgnngnknhkpmaaMatL
namespace Go.Proofs.Ytjgnngnknhkpmaa
open Go Go.RowKit
theorem two_new (w : World) (xs ys : List Value) (T : TypeId) : Blk ((w.alloc (.cells xs.toArray T)).alloc (.cells ys.toArray T)) w.heap.size xs T ∧ Blk ((w.alloc (.cells xs.toArray T)).alloc (.cells ys.toArray T)) (w.heap.size + 1) ys T ∧ Kept [] w ((w.alloc (.cells xs.toArray T)).alloc (.cells ys.toArray T)) := by
  refine ⟨(Blk.new w xs T).alloc _, ?_, ((Kept.refl [] w).alloc _).alloc _⟩
  have h := Blk.new (w.alloc (.cells xs.toArray T)) ys T
  rw [World.size_alloc] at h
  exact h
set_option maxRecDepth 100000 in
set_option maxHeartbeats 8000000 in
theorem invert_any (t n b cap : Nat) (a : List (List Nat)) (rest : List Value) (w : World) (hT : Blk w t (tabC 255) 73) (hb : Blk w b (cellsM a rest) 5) (ha : Mt n n a) (hn : n ≤ 255) (hn0 : 1 ≤ n) (hcap : n * n ≤ cap) (hct : cap ≤ maxLen) :
    Calls Try.prog 29 #[.pointer (some ⟨t, 0, none⟩), mv b n n cap] w (InP w n (invM n a)) := by
  have hz := zeroMx
  generalize hPP : InP w n (invM n a) = PP
  have HPP := hx hPP
  have HT := hx hT
  have HA := hx (And.intro hb ha)
  have HRT := hx (fun w => right_any b n n cap w hn hn)
  have HCL := hx (fun w9 (hk : Kept [] w w9) => clone_any b n n cap a rest w9 (hk.blk hb (by simp)) ha hn hn hn0 hn0 hcap hct)
  have HID := hx (fun w9 => ident_any n w9 hn)
  have H2 := hx (two_new w [.int .i64 (n : Int), .int .i64 (n : Int), .slice (some ⟨b, 0, none⟩) (n * n) cap] [.int .i64 0, .int .i64 0, .slice none 0 0] 41)
  have HTL := hx hT.lt
  have hn1 : (n : Int) ≤ 255 := by omega
  unfold mv at *
  clear hT hb ha hcap hct hPP
  go_enter Try.func29, Try.ntmps29
  go_wp2_with fail
  generalize (w.alloc (.cells #[.int .i64 (n : Int), .int .i64 (n : Int), .slice (some ⟨b, 0, none⟩) (n * n) cap] 41)).alloc (.cells #[.int .i64 0, .int .i64 0, .slice none 0 0] 41) = W0 at *
  refine (HRT.out W0).mono ?_
  rintro e w1 ⟨rfl, hk1⟩
  have K1 := hx (H2.out.2.2.trans0 hk1)
  have D3 := hx (hk1.blk H2.out.1 (by simp))
  have D4 := hx (hk1.blk H2.out.2.1 (by simp))
  clear hk1 H2 HRT
  have c0 := D3.out.cell (i := 0) rfl
  have c1 := D3.out.cell (i := 1) rfl
  have c2 := D3.out.cell (i := 2) rfl
  go_wp2_with fail
  refine (HCL.out w1 K1.out).mono ?_
  rintro e w2 ⟨gm, capm, restm, rfl, hg2, hcm, hcmt, hb2, hk2⟩
  have K2 := hx ((K1.out.trans0 hk2).alloc (.cells #[.int .i64 (n : Int), .int .i64 (n : Int), .slice (some ⟨gm, 0, none⟩) (n * n) capm] 41))
  have D32 := hx ((hk2.blk D3.out (by simp)).alloc (.cells #[.int .i64 (n : Int), .int .i64 (n : Int), .slice (some ⟨gm, 0, none⟩) (n * n) capm] 41))
  have D42 := hx ((hk2.blk D4.out (by simp)).alloc (.cells #[.int .i64 (n : Int), .int .i64 (n : Int), .slice (some ⟨gm, 0, none⟩) (n * n) capm] 41))
  have BM2 := hx (hb2.alloc (.cells #[.int .i64 (n : Int), .int .i64 (n : Int), .slice (some ⟨gm, 0, none⟩) (n * n) capm] 41))
  have D62 := hx (Blk.new w2 [.int .i64 (n : Int), .int .i64 (n : Int), .slice (some ⟨gm, 0, none⟩) (n * n) capm] 41)
  have HGM := hx (show w.heap.size ≤ gm ∧ gm < w2.heap.size ∧ n * n ≤ capm from ⟨by have h := K1.out.size; omega, hb2.lt, hcm⟩)
  clear hg2 hcm hcmt hb2 hk2 K1 D3 D4 HCL c0 c1 c2
  go_upto_region 4 with fail
  generalize w2.heap.size = b6 at *
  generalize w2.alloc (.cells #[.int .i64 (n : Int), .int .i64 (n : Int), .slice (some ⟨gm, 0, none⟩) (n * n) capm] 41) = w3 at *
  have c0 := D32.out.cell (i := 0) rfl
  go_wp2_with fail
  refine (HID.out w3).mono ?_
  rintro e w4 ⟨go, rfl, hgo, hb4, hk4⟩
  have HS := hx (show InS w (w4.alloc (.cells #[.int .i64 (n : Int), .int .i64 (n : Int), .slice (some ⟨go, 0, none⟩) (n * n) (n * n)] 41)) n gm capm go b6 w4.heap.size a (idM n) restm from
    ⟨(hk4.blk D42.out (by simp)).alloc _, (hk4.blk D62.out (by simp)).alloc _, Blk.new w4 _ _, (hk4.blk BM2.out (by simp)).alloc _, hb4.alloc _, HA.out.2, genM_mt (fun i j => by unfold idF; split <;> omega), (K2.out.trans0 hk4).alloc _⟩)
  have HGO := hx (show w.heap.size ≤ go ∧ gm ≠ go ∧ t ≠ gm ∧ t ≠ go from ⟨by have h := K2.out.size; omega, by have h := BM2.out.lt; omega, by have h := HGM.out; have h2 := HTL.out; omega, by have h := K2.out.size; have h2 := HTL.out; omega⟩)
  clear hgo hb4 hk4 K2 D32 D42 BM2 D62 HID c0
  go_upto_region 5 with fail
  generalize w4.heap.size = b7 at *
  generalize w4.alloc (.cells #[.int .i64 (n : Int), .int .i64 (n : Int), .slice (some ⟨go, 0, none⟩) (n * n) (n * n)] 41) = w5 at *
  have c0 := HS.out.r6.cell (i := 0) rfl
  have HI0 := hx (show invS n (a, idM n) 0 = some (a, idM n) from rfl)
  have HIS := hx (fun i q (h : invS n (a, idM n) i = some q) => show invS n (a, idM n) (i + 1) = invStep n i q by rw [invS, h])
  have HIN := hx (fun i (hi : i ≤ n) (h : invS n (a, idM n) i = none) => show invM n a = none by rw [invM, invS_none n _ i h n hi]; rfl)
  have HIV := hx (fun q (h : invS n (a, idM n) n = some q) => show invM n a = some q.2 by rw [invM, h]; rfl)
  go_wp2_with fail
  go_loopw [32] (fun iv wr => ∃ (i : Nat) (q : Mm), i ≤ n ∧ iv = .int .i64 i ∧ invS n (a, idM n) i = some q ∧ InS w wr n gm capm go b6 b7 q.1 q.2 restm) (fun iv _ => n - (intOf iv).toNat)
  case atStart => exact ⟨0, _, by omega, rfl, HI0.out, HS.out⟩
  case round =>
    clear HS c0 HI0
    obtain ⟨i, q, hi, rfl, hq, hs⟩ := hrel
    obtain ⟨M, O⟩ := q
    have HQ := hx hq
    have HS := hx hs
    clear hq hs
    simp only at HS
    by_cases hlt : i < n
    · have hj : (i : Int) < (n : Int) := by omega
      have c60 := HS.out.r6.cell (i := 0) rfl
      have c61 := HS.out.r6.cell (i := 1) rfl
      have c62 := HS.out.r6.cell (i := 2) rfl
      have HPV := hx (pivot_any gm n n capm i i M restm wr HS.out.bM HS.out.mM hn hn hi hlt HGM.out.2.2)
      have HSTP := hx (HIS.out i (M, O) HQ.out)
      have HPL := hx (fun k => pivF_lt M i (n - i) i k)
      unfold invStep at HSTP
      simp only at HSTP
      unfold mv at HPV
      generalize pivF M i i (n - i) = pk at *
      go_wp2_with fail
      refine HPV.out.mono ?_
      rintro e w6 ⟨rfl, hk6⟩
      have HS6 := hx (HS.out.kept hk6)
      clear HS HPV hk6 c60 c61 c62
      cases pk with
      | none =>
        simp only [pivV]
        have HNO := hx (HIN.out (i + 1) (by omega) HSTP.out)
        have ct0 := HS6.out.r4.cell (i := 0) rfl
        have ct1 := HS6.out.r4.cell (i := 1) rfl
        have ct2 := HS6.out.r4.cell (i := 2) rfl
        have hf := HS6.out.r4.free
        go_wp2_with fail
        have hbz : Blk (((w6.setCell ⟨w.heap.size + 1, 0, none⟩ (.int .i64 0)).setCell ⟨w.heap.size + 1, 1, none⟩ (.int .i64 0)).setCell ⟨w.heap.size + 1, 2, none⟩ (.slice none 0 0)) (w.heap.size + 1) [.int .i64 0, .int .i64 0, .slice none 0 0] 41 := ((HS6.out.r4.set 0 _).set 1 _).set 2 _
        have hkz : Kept [w.heap.size + 1] w6 (((w6.setCell ⟨w.heap.size + 1, 0, none⟩ (.int .i64 0)).setCell ⟨w.heap.size + 1, 1, none⟩ (.int .i64 0)).setCell ⟨w.heap.size + 1, 2, none⟩ (.slice none 0 0)) := (((Kept.refl [w.heap.size + 1] w6).setCell (p := ⟨w.heap.size + 1, 0, none⟩) (.inl (by simp)) _).setCell (p := ⟨w.heap.size + 1, 1, none⟩) (.inl (by simp)) _).setCell (p := ⟨w.heap.size + 1, 2, none⟩) (.inl (by simp)) _
        refine bodyPost_ret (ret_cq rfl _ (w.heap.size + 1) _ _ _ _ rfl rfl hbz Try.underlying41 rfl infoMx) rfl ?_
        rw [← HPP.out]
        exact InP.no HNO.out ⟨rfl, HS6.out.k.trans hkz (fun _ h => by simp at h) (fun x hx => by simp at hx; right; omega)⟩
      | some k =>
        simp only [pivV]
        obtain ⟨hk1, hk2, hpne⟩ := HPL.out k rfl
        have hkn : k < n := by omega
        have hkb : (k : Int) < (n : Int) := by omega
        have HSW1 := hx (fun w9 (hk : Kept [] w6 w9) => swap_any gm n n capm i k M restm w9 (hk.blk HS6.out.bM (by simp)) HS6.out.mM hn hn hn0 hlt hkn HGM.out.2.2)
        have HMM := hx (swapM_mt HS6.out.mM hlt hkn)
        have HMO := hx (swapM_mt HS6.out.mO hlt hkn)
        have HPN := hx (show (rw (swapM M i k) i).getD i 0 ≠ 0 by rw [swapM_rw HS6.out.mM hlt hkn]; exact hpne)
        have c60 := HS6.out.r6.cell (i := 0) rfl
        have c61 := HS6.out.r6.cell (i := 1) rfl
        have c62 := HS6.out.r6.cell (i := 2) rfl
        unfold mv at HSW1
        clear hpne hk1 hk2 HPL
        go_wp2_with fail
        refine (HSW1.out w6 (Kept.refl [] w6)).mono ?_
        rintro e w7 ⟨rfl, hb7, hk7⟩
        have HS7 := hx (HS6.out.new hb7 (hk7.blk HS6.out.bO (by have h := HGO.out; simp; omega)) HMM.out HS6.out.mO hk7 (fun b hb => by simp at hb; exact .inl hb) ⟨HGM.out.1, HGO.out.1⟩)
        clear HS6 HSW1 hb7 hk7 c60 c61 c62
        have HSW2 := hx (swap_any go n n (n * n) i k O [] w7 HS7.out.bO HS7.out.mO hn hn hn0 hlt hkn (Nat.le_refl _))
        unfold mv at HSW2
        have c70 := HS7.out.r7.cell (i := 0) rfl
        have c71 := HS7.out.r7.cell (i := 1) rfl
        have c72 := HS7.out.r7.cell (i := 2) rfl
        go_wp2_with fail
        refine HSW2.out.mono ?_
        rintro e w8 ⟨rfl, hb8, hk8⟩
        have HS8 := hx (HS7.out.new (hk8.blk HS7.out.bM (by have h := HGO.out; simp; omega)) hb8 HMM.out HMO.out hk8 (fun b hb => by simp at hb; exact .inr hb) ⟨HGM.out.1, HGO.out.1⟩)
        clear HS7 HSW2 hb8 hk8 c70 c71 c72
        have HCE := hx (clear_any t n n gm capm go (n * n) i i (swapM M i k) (swapM O i k) restm [] w8 (HS8.out.k.blk HT.out (by simp)) HS8.out.bM HS8.out.bO HS8.out.mM HS8.out.mO hn hn hlt hlt HGM.out.2.2 (Nat.le_refl _) HGO.out.2.1 HGO.out.2.2.1 HGO.out.2.2.2 HPN.out)
        unfold mv at HCE
        have c60 := HS8.out.r6.cell (i := 0) rfl
        have c61 := HS8.out.r6.cell (i := 1) rfl
        have c62 := HS8.out.r6.cell (i := 2) rfl
        have c70 := HS8.out.r7.cell (i := 0) rfl
        have c71 := HS8.out.r7.cell (i := 1) rfl
        have c72 := HS8.out.r7.cell (i := 2) rfl
        generalize hcq : clrM n i i (swapM M i k, swapM O i k) = cq at *
        go_wp2_with fail
        refine HCE.out.mono ?_
        rintro e w9 ⟨rfl, hbm, hbo, hmm, hmo, hk9⟩
        have HS9 := hx (HS8.out.new hbm hbo hmm hmo hk9 (fun b hb => by simpa using hb) ⟨HGM.out.1, HGO.out.1⟩)
        clear HS8 HCE hbm hbo hmm hmo hk9 c60 c61 c62 c70 c71 c72
        go_wp2_with fail
        go_roundw
        case rel => exact ⟨i + 1, cq, by omega, by go_num, HSTP.out, HS9.out⟩
        case measure => simp [intOf] <;> omega
    · obtain rfl : i = n := by omega
      have c70 := HS.out.r7.cell (i := 0) rfl
      have c71 := HS.out.r7.cell (i := 1) rfl
      have c72 := HS.out.r7.cell (i := 2) rfl
      have ct0 := HS.out.r4.cell (i := 0) rfl
      have ct1 := HS.out.r4.cell (i := 1) rfl
      have ct2 := HS.out.r4.cell (i := 2) rfl
      have hf := HS.out.r4.free
      have hbz : Blk (((wr.setCell ⟨w.heap.size + 1, 0, none⟩ (.int .i64 (i : Int))).setCell ⟨w.heap.size + 1, 1, none⟩ (.int .i64 (i : Int))).setCell ⟨w.heap.size + 1, 2, none⟩ (.slice (some ⟨go, 0, none⟩) (i * i) (i * i))) (w.heap.size + 1) [.int .i64 (i : Int), .int .i64 (i : Int), .slice (some ⟨go, 0, none⟩) (i * i) (i * i)] 41 := ((HS.out.r4.set 0 _).set 1 _).set 2 _
      have hkz : Kept [w.heap.size + 1] wr (((wr.setCell ⟨w.heap.size + 1, 0, none⟩ (.int .i64 (i : Int))).setCell ⟨w.heap.size + 1, 1, none⟩ (.int .i64 (i : Int))).setCell ⟨w.heap.size + 1, 2, none⟩ (.slice (some ⟨go, 0, none⟩) (i * i) (i * i))) := (((Kept.refl [w.heap.size + 1] wr).setCell (p := ⟨w.heap.size + 1, 0, none⟩) (.inl (by simp)) _).setCell (p := ⟨w.heap.size + 1, 1, none⟩) (.inl (by simp)) _).setCell (p := ⟨w.heap.size + 1, 2, none⟩) (.inl (by simp)) _
      have HBZ := hx (And.intro hbz hkz)
      have HON := hx (show go ≠ w.heap.size + 1 from fun h => by
        have h1 := HS.out.bO
        rw [h] at h1
        exact absurd (h1.ty HS.out.r4) (by decide))
      clear hbz hkz
      go_wp2_with fail
      refine bodyPost_ret (ret_cq rfl _ (w.heap.size + 1) _ _ _ _ rfl rfl HBZ.out.1 Try.underlying41 rfl infoMx) rfl ?_
      rw [← HPP.out]
      exact InP.ok O (HIV.out (M, O) HQ.out) ⟨go, rfl, HGO.out.1, HBZ.out.2.blk HS.out.bO (by have h := HON.out; simpa using h), HS.out.mO, HS.out.k.trans HBZ.out.2 (fun _ h => by simp at h) (fun x hx => by simp at hx; right; omega)⟩
end Go.Proofs.Ytjgnngnknhkpmaa
