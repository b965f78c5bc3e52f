/- The document's rounds. Printed by k/gen_ladrf.py. -/
import Derived.Test.YtgbikakhnmjllaaLadRo
namespace Go.Proofs.Ytgbikakhnmjllaa
open Go Go.RowKit
theorem infoAr : (Try.prog.info? 37).map (fun i => (i.zero, i.size, i.bytes)) = some (some (.agg #[.int .i64 0, .int .i64 0]), 2, 16) := by kernel_rfl
theorem infoSl : (Try.prog.info? 50).map (fun i => (i.zero, i.size, i.bytes)) = some (some (.slice none 0 0), 1, 24) := by kernel_rfl
theorem Kept.ofGrown {w w2 : World} {row : Option Nat} (hg : w.grownBy w2 row) : Kept row.toList w w2 :=
  ⟨hg.os, hg.tape, hg.output, hg.size, fun k hk hn => hg.block k hk (by rintro rfl; simp at hn)⟩
/-- The rounds so far. -/
structure Sls (N : Nat) (w : World) (sl : List Value) : Prop where
  len : sl.length ≤ evN N - 1
  at_ : ∀ j v, sl[j]? = some v → ∃ a k c, v = .slice a k c ∧ k = (rnd N j).length ∧ k ≤ c ∧ LsY 37 w a ((rnd N j).map prN)
theorem Sls.nil (N : Nat) (w : World) : Sls N w [] := ⟨by simp, fun j v h => by simp at h⟩
theorem Sls.kept {N : Nat} {w w2 : World} {sl : List Value} (s : Sls N w sl) (hk : Kept [] w w2) : Sls N w2 sl :=
  ⟨s.len, fun j v h => by
    obtain ⟨a, k, c, h1, h2, h3, h4⟩ := s.at_ j v h
    exact ⟨a, k, c, h1, h2, h3, h4.kept hk⟩⟩
theorem own_kept0 {w w2 : World} {base size : Nat} {e : TypeId} {v : Value} {n : Nat} {xs : List Value} (h : w.ownsRow base e size v n xs) (hk : Kept [] w w2) : w2.ownsRow base e size v n xs := by
  refine ⟨h.1, ?_⟩
  rcases h.2 with hn | ⟨g, cap, cur, rfl, hb, hg, rest⟩
  · exact .inl hn
  · exact .inr ⟨g, cap, cur, rfl, hb, (hk.block g (Array.getElem?_eq_some_iff.1 hg).1 (by simp)).trans hg, rest⟩
theorem own_free {w : World} {base size : Nat} {e T : TypeId} {v : Value} {n : Nat} {xs : List Value} (h : w.ownsRow base e size v n xs) (hT : T ≠ e) : ∀ b, b ∈ v.ownBlock.toList → ∀ ys, ¬ Blk w b ys T := by
  intro b hb ys hB
  rcases h.2 with ⟨rfl, rfl⟩ | ⟨g, cap, cur, rfl, _, hg, _⟩
  · simp [Value.ownBlock] at hb
  · simp only [Value.ownBlock, Option.toList_some, List.mem_cons, List.not_mem_nil, or_false] at hb
    subst hb
    unfold Blk at hB
    rw [hg] at hB
    simp only [Option.some.injEq, Obj.cells.injEq] at hB
    exact hT hB.2.1.symm
theorem Sls.push {N M r : Nat} {w w8 : World} {sl : List Value} {base : Nat} {ou : Value} {a : Option Addr} {c : Nat} {o : Obj} (s : Sls N w sl) (ho : w.ownsRow base 50 1 ou sl.length sl) (hy : LsY 37 w a ((rd N r (M / 2)).map prN)) (hc : (rd N r (M / 2)).length ≤ c) (hm : evN N = M ∧ r = sl.length ∧ r < M - 1) (hg : (w.alloc o).grownBy w8 ou.ownBlock) : Sls N w8 (sl ++ [.slice a (rd N r (M / 2)).length c]) := by
  obtain ⟨rfl, rfl, hlt⟩ := hm
  have hk1 : Kept [] w (w.alloc o) := (Kept.refl [] w).alloc o
  have hk := Kept.ofGrown hg
  have hf := own_free (own_kept0 ho hk1) (T := 37) (by decide)
  refine ⟨by simp; omega, fun j v h => ?_⟩
  rcases Nat.lt_trichotomy j sl.length with hj | hj | hj
  · rw [List.getElem?_append_left hj] at h
    obtain ⟨a, k, c, h1, h2, h3, h4⟩ := s.at_ j v h
    exact ⟨a, k, c, h1, h2, h3, (h4.kept hk1).frame hk hf⟩
  · subst hj
    simp at h
    subst h
    exact ⟨a, _, c, rfl, rfl, hc, (hy.kept hk1).frame hk hf⟩
  · rw [List.getElem?_eq_none (by simp; omega)] at h
    cases h
theorem own_push1 {w : World} {base : Nat} {e : TypeId} {v x : Value} {out : List Value} (h : w.ownsRow base e 1 v (out.length + 1) (out ++ [x])) : w.ownsRow base e 1 v (out ++ [x]).length (out ++ [x]) := by
  rw [List.length_append]
  exact h
def RfP (w : World) (N : Nat) (e : Ending) (w' : World) : Prop :=
  ∃ a c sl, e = .returned (.slice a (evN N - 1) c) ∧ sl.length = evN N - 1 ∧ evN N - 1 ≤ c ∧ Sls N w' sl ∧ (∀ j v, sl[j]? = some v → ∃ g off, a = some ⟨g, off, none⟩ ∧ w'.cell? ⟨g, off + j, none⟩ = some v) ∧ Kept [] w w'
theorem rf_end {w wr : World} {N : Nat} {v : Value} {sl : List Value} (hK : sl.length = evN N - 1) (ho : wr.ownsRow w.heap.size 50 1 v sl.length sl) (hs : Sls N wr sl) (hk : Kept [] w wr) : RfP w N (.returned v) wr := by
  have hcell : ∀ g c, v = .slice (some ⟨g, 0, none⟩) sl.length c → ∀ j u, sl[j]? = some u → wr.cell? ⟨g, 0 + j, none⟩ = some u := by
    intro g c hv j u hu
    subst hv
    have hj := (List.getElem?_eq_some_iff.1 hu).1
    rw [Nat.zero_add, ho.cellAt j (by omega)]
    exact hu
  rcases ho.2 with ⟨h1, h0⟩ | ⟨g, cap, cur, h1, hb, hg, hnc, hcm, hcs, htake⟩
  · subst h1
    refine ⟨none, 0, sl, by rw [← hK, h0], hK, by omega, hs, fun j u hu => ?_, hk⟩
    have hj := (List.getElem?_eq_some_iff.1 hu).1
    omega
  · refine ⟨some ⟨g, 0, none⟩, cap, sl, by rw [h1, hK], hK, by omega, hs, fun j u hu => ⟨g, 0, rfl, hcell g cap h1 j u hu⟩, hk⟩
set_option maxRecDepth 100000 in
set_option maxHeartbeats 12000000 in
theorem rrounds_any (p : Int) (n : Nat) (w : World) (hn : n ≤ 32) (hp : (if 32 < (if p < 0 then 0 else p) then 32 else if p < 0 then 0 else p) = (n : Int)) :
    Calls Try.prog 15 #[.int .i64 p] w (RfP w n) := by
  generalize hPP : RfP w n = PP
  have HPP := hx hPP
  have hM : evN n ≤ 33 ∧ (evN n = 0 ∨ 2 ≤ evN n) ∧ evN n ≤ n + 1 ∧ n ≤ evN n := by unfold evN; omega
  have hMc : ((evN n : Nat) : Int) = (n : Int) + (n : Int) % 2 := by unfold evN; omega
  have HPA := hx (fun r i => show paN n r i = (r + i) % (evN n - 1) from rfl)
  have HPB := hx (fun r i => show pbN n r i = if i = 0 then evN n - 1 else (r + evN n - 1 - i) % (evN n - 1) from rfl)
  have HRD := hx (fun r i => show rd n r (i + 1) = if paN n r i < n ∧ pbN n r i < n then rd n r i ++ [(min (paN n r i) (pbN n r i), max (paN n r i) (pbN n r i))] else rd n r i from rfl)
  obtain ⟨M, hMe⟩ : ∃ M, evN n = M := ⟨_, rfl⟩
  have HME := hx hMe
  rw [hMe] at hM hMc HPA HPB
  have HMC := hx hMc
  clear hPP hMe hMc
  go_enter Try.func15, Try.ntmps15
  have HP := hx hp
  clear hp
  go_upto_region 1 with fail
  go_cut [3] from 11 to 14 (fun s3 wx => s3 = .int .i64 n ∧ wx = w)
  case first =>
    go_wp2_with fail
    all_goals
      go_meet
      refine ⟨?_, rfl⟩
      rw [← HP.out]
      congr 1
      split <;> split at * <;> omega
  case rest =>
  obtain ⟨rfl, hw⟩ := hcut
  obtain rfl := hw.symm
  go_upto_region 2 with fail
  go_cut [4] from 14 to 18 (fun s4 wx => s4 = .int .i64 M ∧ wx = w)
  case first =>
    go_wp2_with fail
    go_meet
    exact ⟨by rw [HMC.out], rfl⟩
  case rest =>
  obtain ⟨rfl, hw⟩ := hcut
  obtain rfl := hw.symm
  go_wp2_with fail
  go_loopw [5, 6] (fun ov rv wr => ∃ (sl : List Value) (ou : Value), sl.length ≤ M - 1 ∧ rv = .int .i64 sl.length ∧ ou = ov ∧ Sls n wr sl ∧ wr.ownsRow w.heap.size 50 1 ou sl.length sl ∧ Kept [] w wr) (fun _ rv _ => M - 1 - (intOf rv).toNat)
  case atStart => exact ⟨[], _, by simp, rfl, rfl, Sls.nil _ _, World.ownsRow_nil _ _ _ _, Kept.refl _ _⟩
  case round =>
    obtain ⟨sl, ou, hr, rfl, rfl, hs, ho, hk⟩ := hrel
    have HSL := hx hs
    have HOO := hx ho
    have HKK := hx hk
    clear hs ho hk
    by_cases hrl : sl.length < M - 1
    · obtain ⟨r, hre⟩ : ∃ r, sl.length = r := ⟨_, rfl⟩
      have HM := hx (show evN n = M ∧ r = sl.length ∧ r < M - 1 from ⟨HME.out, hre.symm, by omega⟩)
      have HSL2 := hx (show sl.length ≤ 32 ∧ sl.length < M - 1 ∧ r = sl.length by omega)
      simp only [hre]
      have hrM : r < M - 1 := by omega
      have hrj : (r : Int) < (M : Int) - 1 := by omega
      clear hre hrl hr
      have HR0 := hx (World.ownsRow_nil wr wr.heap.size 37 2)
      have HK0 := hx (Kept.refl [] wr)
      go_upto_region 9 with fail
      generalize hw1 : wr = w1 at *
      go_loopw [7, 8] (fun lv iv wr => ∃ (i : Nat) (u : Value), i ≤ M / 2 ∧ iv = .int .i64 i ∧ u = lv ∧ wr.ownsRow w1.heap.size 37 2 u (rd n r i).length (cl2 ((rd n r i).map prN)) ∧ Kept [] w1 wr) (fun _ iv _ => M / 2 - (intOf iv).toNat)
      case atStart => exact ⟨0, _, by omega, rfl, rfl, HR0.out, HK0.out⟩
      case round =>
        clear HR0 HK0
        obtain ⟨i, u, hi, rfl, rfl, ho, hk⟩ := hrel
        have HO := hx ho
        have HK := hx hk
        have HLN := hx (rd_len n r i)
        clear ho hk
        by_cases hlt : i < M / 2
        · have hj : (i : Int) < ((M / 2 : Nat) : Int) := by omega
          have hz : ¬ ((M : Int) - 1) = 0 := by omega
          have ha : ((r : Int) + (i : Int)) % ((M : Int) - 1) = ((paN n r i : Nat) : Int) := by
            rw [HPA.out, Int.natCast_emod]
            congr 1
            omega
          have hb : ((r : Int) - (i : Int) + (M : Int) - 1) % ((M : Int) - 1) = (((r + M - 1 - i) % (M - 1) : Nat) : Int) := by
            rw [Int.natCast_emod]
            congr 1 <;> omega
          have HAB := hx (HPB.out r i)
          have HA0 := hx (show i = 0 → paN n r i = r from fun h => by rw [HPA.out, h]; exact Nat.mod_eq_of_lt hrM)
          have hAm : paN n r i < M - 1 := by rw [HPA.out]; exact Nat.mod_lt _ (by omega)
          have hBm : (r + M - 1 - i) % (M - 1) < M - 1 := Nat.mod_lt _ (by omega)
          generalize (r + M - 1 - i) % (M - 1) = B0 at *
          replace HRD := hx (HRD.out r i)
          generalize paN n r i = A at *
          go_upto_region 11 with fail
          have HOd := hx HO.out.drew
          have HKd := hx HK.out.drew
          clear HO HK
          go_region
          generalize wr.drew = w5 at *
          have HO := HOd
          have HK := HKd
          clear HOd HKd
          simp only [ha, hb]
          clear ha hb
          rcases Nat.eq_zero_or_pos i with h0 | hpos
          · have hB : pbN n r i = M - 1 := by rw [HAB.out, if_pos h0]
            have hin : (i : Int) = 0 := by omega
            rw [hB, HA0.out h0] at HRD
            clear HAB HA0 hB
            obtain ⟨B, hB'⟩ : ∃ B, M - 1 = B := ⟨_, rfl⟩
            rw [hB'] at HRD
            have HBI := hx (show ((M : Int) - 1) = (B : Int) by omega)
            have HRB := hx (show r < B by omega)
            have hk1 : ((r : Int) != (n : Int)) = true := bne_iff_ne.2 (by omega)
            by_cases hkp : r < n ∧ B < n
            · have hk2 : (((M : Int) - 1) != (n : Int)) = true := bne_iff_ne.2 (by omega)
              clear hB'
              have HE := hx (show rd n r (i + 1) = rd n r i ++ [(r, B)] by rw [HRD.out, if_pos hkp, show min r B = r by have h := HRB.out; omega, show max r B = B by have h := HRB.out; omega])
              go_wp2_with (at_builtin; refine wpList_app rfl (.tmp 58) (.tmp 66) 50 rfl w1.heap.size 37 (.agg #[.int .i64 0, .int .i64 0]) 2 16 infoAr Try.underlying50 rfl (by omega) u (rd n r i).length (cl2 ((rd n r i).map prN)) rfl (World.ownsRow.alloc HO.out _) (some ⟨_, 0, none⟩) 1 1 (ci2 (r, (M : Int) - 1)) rfl rfl (by simp) (by omega) (blk_news (Blk.new _ (ci2 (r, (M : Int) - 1)) 37)) (one_ci2 _) (by unfold maxLen; have := HLN.out; omega) (by have := HLN.out; omega) (HK.out.alloc _).size ?_; intro u2 w8 ho8 hg8; have HK8 := hx ((HK.out.alloc _).grown hg8 (fun q hq => .inr (HO.out.lt q hq).1)); have HO8 := hx (own_push2' (x := r) (y := B) (by have h := ho8; rw [HBI.out] at h; exact h)); clear ho8 hg8 HO HK)
              go_wp2
              go_roundw
              case rel => exact ⟨i + 1, u2, by omega, by go_num, rfl, by rw [HE.out]; exact HO8.out, HK8.out⟩
              case measure => simp [intOf] <;> omega
            · have hk2 : (((M : Int) - 1) != (n : Int)) = false := by rw [show (M : Int) - 1 = (n : Int) by omega]; simp
              clear hB'
              have HE := hx (show rd n r (i + 1) = rd n r i by rw [HRD.out, if_neg hkp])
              go_wp2
              go_roundw
              case rel => exact ⟨i + 1, u, by omega, by go_num, rfl, by rw [HE.out]; exact HO.out, HK.out⟩
              case measure => simp [intOf] <;> omega
          · have hB : pbN n r i = B0 := by rw [HAB.out, if_neg (by omega)]
            clear HAB HA0
            rw [hB] at HRD
            have hin : ¬ (i : Int) = 0 := by omega
            generalize B0 = B at *
            have hkp : A < n ∧ B < n := by omega
            have hk1 : ((A : Int) != (n : Int)) = true := bne_iff_ne.2 (by omega)
            have hk2 : ((B : Int) != (n : Int)) = true := bne_iff_ne.2 (by omega)
            by_cases hab : A ≤ B
            · rcases Nat.lt_or_eq_of_le hab with hab2 | hab2
              · have hab3 : (A : Int) < (B : Int) := by omega
                have HE := hx (show rd n r (i + 1) = rd n r i ++ [(A, B)] by rw [HRD.out, if_pos hkp, show min A B = A by omega, show max A B = B by omega])
                go_wp2_with (at_builtin; refine wpList_app rfl (.tmp 58) (.tmp 66) 50 rfl w1.heap.size 37 (.agg #[.int .i64 0, .int .i64 0]) 2 16 infoAr Try.underlying50 rfl (by omega) u (rd n r i).length (cl2 ((rd n r i).map prN)) rfl (World.ownsRow.alloc HO.out _) (some ⟨_, 0, none⟩) 1 1 (ci2 (A, B)) rfl rfl (by simp) (by omega) (blk_news (Blk.new _ (ci2 (A, B)) 37)) (one_ci2 _) (by unfold maxLen; have := HLN.out; omega) (by have := HLN.out; omega) (HK.out.alloc _).size ?_; intro u2 w8 ho8 hg8; have HK8 := hx ((HK.out.alloc _).grown hg8 (fun q hq => .inr (HO.out.lt q hq).1)); have HO8 := hx (own_push2' ho8); clear ho8 hg8 HO HK)
                go_wp2
                go_roundw
                case rel => exact ⟨i + 1, u2, by omega, by go_num, rfl, by rw [HE.out]; exact HO8.out, HK8.out⟩
                case measure => simp [intOf] <;> omega
              · obtain rfl := hab2
                have HE := hx (show rd n r (i + 1) = rd n r i ++ [(A, A)] by rw [HRD.out, if_pos hkp, show min A A = A by omega, show max A A = A by omega])
                go_wp2_with (at_builtin; refine wpList_app rfl (.tmp 58) (.tmp 66) 50 rfl w1.heap.size 37 (.agg #[.int .i64 0, .int .i64 0]) 2 16 infoAr Try.underlying50 rfl (by omega) u (rd n r i).length (cl2 ((rd n r i).map prN)) rfl (World.ownsRow.alloc HO.out _) (some ⟨_, 0, none⟩) 1 1 (ci2 (A, A)) rfl rfl (by simp) (by omega) (blk_news (Blk.new _ (ci2 (A, A)) 37)) (one_ci2 _) (by unfold maxLen; have := HLN.out; omega) (by have := HLN.out; omega) (HK.out.alloc _).size ?_; intro u2 w8 ho8 hg8; have HK8 := hx ((HK.out.alloc _).grown hg8 (fun q hq => .inr (HO.out.lt q hq).1)); have HO8 := hx (own_push2' ho8); clear ho8 hg8 HO HK)
                go_wp2
                go_roundw
                case rel => exact ⟨i + 1, u2, by omega, by go_num, rfl, by rw [HE.out]; exact HO8.out, HK8.out⟩
                case measure => simp [intOf] <;> omega
            · have hab3 : (B : Int) < (A : Int) := by omega
              have HE := hx (show rd n r (i + 1) = rd n r i ++ [(B, A)] by rw [HRD.out, if_pos hkp, show min A B = B by omega, show max A B = A by omega])
              go_wp2_with (at_builtin; refine wpList_app rfl (.tmp 58) (.tmp 66) 50 rfl w1.heap.size 37 (.agg #[.int .i64 0, .int .i64 0]) 2 16 infoAr Try.underlying50 rfl (by omega) u (rd n r i).length (cl2 ((rd n r i).map prN)) rfl (World.ownsRow.alloc HO.out _) (some ⟨_, 0, none⟩) 1 1 (ci2 (B, A)) rfl rfl (by simp) (by omega) (blk_news (Blk.new _ (ci2 (B, A)) 37)) (one_ci2 _) (by unfold maxLen; have := HLN.out; omega) (by have := HLN.out; omega) (HK.out.alloc _).size ?_; intro u2 w8 ho8 hg8; have HK8 := hx ((HK.out.alloc _).grown hg8 (fun q hq => .inr (HO.out.lt q hq).1)); have HO8 := hx (own_push2' ho8); clear ho8 hg8 HO HK)
              go_wp2
              go_roundw
              case rel => exact ⟨i + 1, u2, by omega, by go_num, rfl, by rw [HE.out]; exact HO8.out, HK8.out⟩
              case measure => simp [intOf] <;> omega
        · obtain rfl : i = M / 2 := by omega
          have hj : ¬ ((M / 2 : Nat) : Int) < ((M / 2 : Nat) : Int) := by omega
          obtain ⟨hl1, a1, c1, rfl, hl2, hl3⟩ := ls_form HO.out
          have HY := hx (ls_formY HO.out)
          have HS1 := hx (HSL.out.kept HK.out)
          have HOO1 := hx (own_kept0 HOO.out HK.out)
          have HKK1 := hx (HKK.out.trans0 HK.out)
          have HL2 := hx hl2
          clear hl1 hl2 hl3 HO HK HSL HOO HKK
          go_wp2_with (at_builtin; refine wpList_app rfl (.tmp 68) (.tmp 70) 45 rfl w.heap.size 50 (.slice none 0 0) 1 24 infoSl Try.underlying45 rfl (by omega) ou sl.length sl rfl (World.ownsRow.alloc HOO1.out _) (some ⟨_, 0, none⟩) 1 1 [.slice a1 (rd n r (M / 2)).length c1] rfl rfl (by simp) (by omega) (blk_news (Blk.new _ [.slice a1 (rd n r (M / 2)).length c1] 50)) (by simp [Value.oneCell']) (by unfold maxLen; have := HSL2.out; omega) (by have := HSL2.out; omega) (HKK1.out.alloc _).size ?_; intro u2 w8 ho8 hg8; have HX8 := hx (Sls.push HS1.out HOO1.out HY.out HL2.out HM.out hg8); have HK8 := hx ((HKK1.out.alloc _).grown hg8 (fun q hq => .inr (HOO1.out.lt q hq).1)); have HO8 := hx (own_push1 ho8); clear ho8 hg8 HS1 HOO1 HY HKK1)
          go_wp2
          go_roundw
          case rel => exact ⟨_, u2, by have h := HX8.out.len; have h2 := HSL2.out; simp at h; simp; omega, by have h := HSL2.out; simp; omega, rfl, HX8.out, HO8.out, HK8.out⟩
          case measure => simp [intOf] <;> omega
    · have hrj : ¬ (sl.length : Int) < (M : Int) - 1 := by omega
      go_wp2
      rw [← HPP.out]
      exact rf_end (by rw [HME.out]; omega) HOO.out HSL.out HKK.out
end Go.Proofs.Ytgbikakhnmjllaa
