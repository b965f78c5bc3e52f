/- nack: Tick's walk. -/
import Derived.Test.YteobkcmfpmolmaaNkE
import Derived.Stop.RegionWithIn
namespace Go.Proofs.Yteobkcmfpmolmaa
open Go Go.RowKit Go.Shelf
variable {w w' : World} {p q mb n : Nat} {v v' : Value} {room now now' no no' asked full : Int} {h h' : List En} {f f' : Int → Int}
/-- What Tick leaves. -/
def NTickP (w : World) (p q mb n : Nat) (v : Value) (room now no asked full t : Int) (s : List En) (f : Int → Int) (e : Ending) (w' : World) : Prop :=
  ∃ d l X, d = dueN (nowT now 1) s ∧ l = (s.take d).map (·.key) ∧ X = manyN t (nowT now 1) l (s.drop d, f, no) ∧ ∃ v' n' a c, e = .returned (.slice a d c) ∧ d ≤ c ∧ KeptK w w' p q mb v v' ∧ n' ≤ n + d ∧
    Nk w' p q mb n' v' room (nowT now 1) X.2.2 (asked + d) full X.1 X.2.1 ∧ Ik w' a l ∧ (∀ g off, a = some ⟨g, off, none⟩ → w.heap.size ≤ g)
theorem shl_fits {H T : Int} (h1 : 1 ≤ H) (h2 : H ≤ 4096) (t1 : 1 ≤ T) (t2 : T ≤ 5) : 0 ≤ H * 2 ^ T.toNat ∧ H * 2 ^ T.toNat ≤ 131072 := by
  have ht : T = 1 ∨ T = 2 ∨ T = 3 ∨ T = 4 ∨ T = 5 := by omega
  rcases ht with rfl | rfl | rfl | rfl | rfl <;> simp <;> omega
theorem i64_wf {x : Int} (h0 : 0 ≤ x) (h1 : x ≤ 1000) : (Lit.int .i64 x).wf = true := by
  simp only [Lit.wf, Bool.and_eq_true, decide_eq_true_eq]
  exact ⟨by show (-9223372036854775808 : Int) ≤ x; omega, by show x ≤ 9223372036854775807; omega⟩
set_option maxRecDepth 100000 in
set_option maxHeartbeats 12800000 in
theorem ntick_any (t : Int) (s : List En) (w : World) (hs : Nk w p q mb n v room now no asked full h f) (hp : Tp h s now no) (hl : h.length ≤ 64) (hr : (h.length : Int) ≤ room) (hw : ∀ x, x ∈ s → (Lit.int .u32 x.key).wf = true) (hf : ∀ j, 0 ≤ f j ∧ f j ≤ 5) (hn1 : no ≤ 900000000) (ha0 : 0 ≤ asked) (ha1 : asked ≤ 900000000) (hnw : now ≤ 1000000000) (hnn : n ≤ 900000000) :
    Calls Try.prog 11 #[.pointer (some ⟨p, 0, none⟩), .int .i64 t] w (NTickP w p q mb n v room now no asked full t s f) := by
  have c0 := hs.hp.cell (i := 0) rfl
  have HS := hx hs
  have HT := hx (tick_any q v room now no 1 h s w hs.ts hp (by omega))
  have hsl := hp.len
  have HQ := hx (fun i (hi : i < dueN (nowT now 1) s) => comeN (room := room) (t := t) (now := nowT now 1) hp.keys hw (by omega) (by omega) (dueN_le (nowT now 1) s) hp.no0 hn1 hf i hi)
  have HB := hx (show dueN (nowT now 1) s ≤ 64 ∧ dueN (nowT now 1) s ≤ s.length from ⟨by have := dueN_le (nowT now 1) s; omega, dueN_le _ _⟩)
  have HA := hx (show (0 ≤ asked ∧ asked ≤ 900000000) ∧ n ≤ 900000000 ∧ 0 ≤ nowT now 1 ∧ nowT now 1 ≤ 1099511627776 from ⟨⟨ha0, ha1⟩, hnn, by have := (now_le (ticks := 1) hp.now1); have := hp.now0; omega, (now_le (ticks := 1) hp.now1).2⟩)
  have HOB := hx (show ∀ g, v.ownBlock = some g → g < w.heap.size from fun g hg => (hs.ts.own.lt g hg).2)
  generalize hPP : NTickP w p q mb n v room now no asked full t s f = PP at *
  have HPP := hx hPP
  clear hs hp hl hr hw hf hn1 ha0 ha1 hnw hnn hsl hPP
  go_enter Try.func11, Try.ntmps11
  go_wp2_with fail
  refine HT.out.mono ?_
  rintro e w1 ⟨v1, a, c, hk1, ht1, rfl, hc, hik, hg, ho⟩
  generalize hD : dueN (nowT now 1) s = d at *
  have HD := hx hD
  have HN1 := hx (HS.out.turn hk1 ht1)
  have HK1 := hx hk1
  have HC1 := hx (And.intro hc hg)
  generalize hL : (s.take d).map (·.key) = l at *
  have HL := hx hL
  have HLL := hx (show l.length = d by have := HB.out.2; rw [← hL]; simp; omega)
  have HIK := hx (show ∀ wr vv, KeptK w1 wr p q mb v1 vv → Ik wr a l from fun wr vv hk => hik.frame hk.1 (fun g off ha hm => by
    have h1 := hg g off ha
    simp only [List.mem_cons, Option.mem_toList] at hm
    rcases hm with rfl | rfl | rfl | hm
    · have := HS.out.hp.lt; omega
    · have := HS.out.ts.hq.lt; omega
    · have := HS.out.mp.lt; omega
    · rw [ho] at hm; have := HOB.out g hm; omega))
  clear hk1 ht1 hc hik hg ho hD c0 hL
  go_wp2_with fail
  go_loopw [17] (fun iv wr => ∃ (i : Nat), i ≤ d ∧ iv = .int .i64 i ∧ RunN w1 wr p q mb n v1 room (nowT now 1) asked full t l (s.drop d, f, no) i) (fun iv _ => d - (intOf iv).toNat)
  case atStart => exact ⟨0, Nat.zero_le _, rfl, v1, n, KeptK.of (Kept.refl [] _) (by simp), by omega, by simpa [manyN] using HN1.out⟩
  case round =>
    obtain ⟨i, hi, rfl, hrun⟩ := hrel
    have HR := hx hrun
    have HI := hx hi
    clear hrun
    by_cases hlt : i < d
    · have hj1 : (i : Int) < (d : Int) := by omega
      have hj0 : (0 : Int) ≤ (i : Int) := by omega
      obtain ⟨vv, nn, hkk, hnn, hnk⟩ := HR.out
      have hq := HQ.out i hlt
      obtain ⟨gg, off, rfl, hc⟩ := (HIK.out wr vv hkk) i (by rw [HLL.out]; exact hlt)
      generalize hX : manyN t (nowT now 1) (l.take i) (s.drop d, f, no) = X at *
      generalize hk : l.getD i 0 = k at *
      have hd2 := hnk.hp.cell (i := 2) rfl
      have hdf := hnk.hp.free
      have HN := hx hnk
      have HKK := hx hkk
      have HNN := hx hnn
      have HCO := hx hq
      have HLT := hx hlt
      have hwa : IntKind.i64.wrap (asked + i + 1) = asked + i + 1 := by have h1 := HA.out; have h2 := HB.out; rw [IntKind.wrap_i64]; omega
      have HA1 := hx hnk.asked1
      have hwj : IntKind.i64.wrap ((i : Int) + 1) = ((i + 1 : Nat) : Int) := by have h2 := HB.out; rw [IntKind.wrap_i64]; omega
      clear hkk hnn hnk hX hk hq hlt hi
      go_upto_region 6 with fail
      generalize wr.setCell ⟨p, 2, none⟩ (.int .i64 (asked + i + 1)) = W at *
      have e1 := HA1.out.1.hp.cell (i := 1) rfl
      have hlk := HA1.out.1.mp.look (k := k) HCO.out.wf
      have hwb : IntKind.i64.wrap (X.2.1 k + 1) = X.2.1 k + 1 := by have h1 := HCO.out.tries k; rw [IntKind.wrap_i64]; omega
      have hmn : min (X.2.1 k + 1) 5 = tryN X.2.1 k := rfl
      have HM := hx hmn
      go_upto_region 7 with fail
      have HTR := hx (tryN_in HCO.out.tries k)
      obtain ⟨w5, hput, hm5, hg5⟩ := HA1.out.1.mp.put (k := k) (v := tryN X.2.1 k) (by have h1 := HA.out; have h2 := HNN.out; have h3 := HB.out; have h4 := HLT.out; unfold maxLen; omega) HCO.out.wf (i64_wf (by have h1 := HTR.out; omega) (by have h1 := HTR.out; omega))
      have HM5 := hx (HA1.out.1.mapped hm5 hg5)
      have HC := hx (fun w => held_any t w)
      clear hm5 hg5
      go_upto_region 9 with (go_at_call 24; refine (HC.out _).mono ?_; rintro e w4 ⟨rfl, rfl⟩)
      have f0 := HM5.out.1.hp.cell (i := 0) rfl
      have HGP := hx (show max (heldN t) (min (heldN t * 2 ^ (tryN X.2.1 k).toNat) 100) = gapN t (tryN X.2.1 k) from rfl)
      have HNX := hx (show stepN t (nowT now 1) X k = (X.1 ++ [⟨k, nowT now 1 + gapN t (tryN X.2.1 k), X.2.2 + 1⟩], fun j => if j = k then tryN X.2.1 k else X.2.1 j, X.2.2 + 1) from rfl)
      have HHI := hx (heldN_in t)
      have HGI := hx (gapN_in t (tryN X.2.1 k))
      generalize hT : tryN X.2.1 k = T at *
      generalize hGG : gapN t T = G at *
      generalize hH : heldN t = H at *
      have hT1 : (0 : Int) ≤ T := by have h1 := HTR.out; omega
      have hT2 : T ≤ 5 := HTR.out.2
      have hwc : IntKind.i64.wrap (H * 2 ^ T.toNat) = H * 2 ^ T.toNat := by have h1 := shl_fits HHI.out.1 HHI.out.2 HTR.out.1 HTR.out.2; rw [IntKind.wrap_i64]; omega
      have HST := hx (nstart_new k G w5.drew (HM5.out.1.kept (Kept.refl [] _).drew) HCO.out.len1 HA.out.2.2.1 HA.out.2.2.2 HCO.out.key HCO.out.len HCO.out.no0 HCO.out.no1 HGI.out.1 HGI.out.2)
      rw [← HGP.out] at HST
      go_region_with (first | (go_at_call 23; refine HST.out.mono ?_; rintro e w6 ⟨rfl, v6, hk6, hs6⟩; have HK6 := hx hk6; have HS6 := hx hs6; clear hk6 hs6))
      all_goals go_wp2_with fail
      all_goals
        clear hd2 hdf e1 hlk hwb hput f0 hwc
        refine ⟨⟨i + 1, HLT.out, by simp, v6, nn + 1, (((HKK.out.trans HA1.out.2).trans HM5.out.2).trans (KeptK.of ((Kept.refl [] w5).drew) (by simp))).trans HK6.out, by have h1 := HNN.out; omega, ?_⟩, ?_⟩
        · have h6 := HS6.out
          rw [HGP.out] at h6
          rw [HCO.out.next, HNX.out]
          have e1 : asked + ((i + 1 : Nat) : Int) = asked + i + 1 := by omega
          rw [e1]
          exact h6
        · have h1 := HLT.out
          simp [intOf] <;> omega
    · obtain rfl : i = d := by have h1 := HI.out; omega
      have hlt : ¬ (i : Int) < (i : Int) := by omega
      go_wp2_with fail
      rw [← HPP.out]
      obtain ⟨vv, nn, hkk, hnn, hnk⟩ := HR.out
      have hlt2 : l.take i = l := by rw [← HLL.out, List.take_length]
      rw [hlt2] at hnk
      exact ⟨i, l, _, HD.out.symm, HL.out.symm, rfl, vv, nn, a, c, rfl, HC1.out.1, (KeptK.ofT HK1.out).trans hkk, hnn, hnk, HIK.out wr vv hkk, HC1.out.2⟩
end Go.Proofs.Yteobkcmfpmolmaa
