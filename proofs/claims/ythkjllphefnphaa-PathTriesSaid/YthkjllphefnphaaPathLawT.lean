import Derived.Test.YthkjllphefnphaaPathLaw
namespace Go.Proofs.Ythkjllphefnphaa
open Go Go.RowKit
set_option maxRecDepth 100000 in
set_option maxHeartbeats 6400000 in
theorem law_tries (a : Option Addr) (len cap : Nat) (ticks : Int) (n : Nat) (w : World) (hA : Acts w a len cap) (hn : n < 4294967296) :
    Calls Try.prog 4 #[.slice a len cap, .int .i64 ticks, .int .u32 n] w fun e w' => e = .returned (.bool true) ∧ Kept [] w w' := by
  obtain ⟨Z, hZ, hz⟩ := zeroPa'
  obtain ⟨Y, hY, hy⟩ := zeroRp'
  have HA := hx hA
  have HZ := hx hZ
  have HY := hx hY
  have HN := hx hn
  clear hA hZ hY hn
  go_enter Try.func4, Try.ntmps4
  go_wp2_with fail
  refine (pawake_any _).mono ?_
  rintro e w1 ⟨rfl, hk1⟩
  have HK1 := hx hk1
  have HP := hx (played_any a len cap w1 (HA.out.kept hk1))
  clear hk1
  go_wp2_with fail
  refine HP.out.mono ?_
  rintro e w2 ⟨p, rfl, hok, hg, hk2⟩
  have HK2 := hx (HK1.out.trans0 hk2)
  have HM := hx (show w.heap.size ≤ w2.heap.size from HK2.out.size)
  have HOK := hx hok
  have HG := hx hg
  clear hk2 HP hok hg HK1
  have hbz := hx (show Blk ((w2.alloc (.cells Z 31)).alloc (.cells Y 37)) w2.heap.size (pac pa0) 31 by
    have h := (Blk.new' w2 Z 31).alloc (.cells Y 37)
    rw [HZ.out] at h
    exact h)
  have hby := hx (show Blk ((w2.alloc (.cells Z 31)).alloc (.cells Y 37)) (w2.heap.size + 1) (rpc pa0) 37 by
    have h := Blk.new' (w2.alloc (.cells Z 31)) Y 37
    rw [HY.out, show (w2.alloc (.cells Z 31)).heap.size = w2.heap.size + 1 by simp] at h
    exact h)
  have K3 := hx ((HK2.out.alloc (.cells Z 31)).alloc (.cells Y 37))
  clear HK2
  go_upto_region 4 with (first
    | (refine store_blk rfl 31 (.tmp 7) (.tmp 18) rfl w2.heap.size rfl 31 _ _ rfl hbz.out rfl (infoPan _) (pac_one _) ?_
       intro w4 hb4 hk4
       have HC4 := hx hb4
       have HB4 := hx (hk4.blk hby.out (by simp))
       have K4 := hx (Kept.behind K3.out hk4 HM.out)
       clear hb4 hk4 hbz hby K3)
    | (refine store_blk rfl 37 (.tmp 8) (.tmp 19) rfl (w2.heap.size + 1) rfl 37 _ _ rfl HB4.out (rpc_len2 _ _) (infoRpn _) (rpc_one _) ?_
       intro w5 hb5 hk5
       have HB := hx (hk5.blk HC4.out (by simp))
       have HK := hx (Kept.behind K4.out hk5 (by have := HM.out; omega))
       clear hb5 hk5 HB4 K4 HC4))
  clear hz hy
  generalize w2.heap.size = m at *
  by_cases h1 : ticks < 0
  · go_wp2
    go_ret
    exact ⟨rfl, HK.out⟩
  · by_cases h2 : 1000 < ticks
    · go_wp2
      go_ret
      exact ⟨rfl, HK.out⟩
    · go_upto_region 6 with fail
      have c11 := HB.out.cell (i := 11) (v := .int .i64 p.quiet) rfl
      go_region
      have HB2 := hx HB.out.drew
      have HK2 := hx HK.out.drew
      clear c11 HB HK
      generalize w5.drew = w6 at *
      have q0 := HOK.out.quiet
      have T0 := hx (Tr.zero p 100 20000 HOK.out HG.out)
      clear HOK HG
      generalize p.quiet = Q at *
      obtain ⟨q1, q2⟩ := q0
      go_wp2
      go_loopw [12, 10] (fun iv lv wr => ∃ (i : Nat) (q : Pa) (last : Int), (i : Int) ≤ ticks ∧ iv = .int .i64 i ∧ lv = .int .i64 last ∧ Tr Q 100 20000 q i last ∧ Blk wr m (pac q) 31 ∧ Kept [] w wr) (fun iv _ _ => ticks.toNat - (intOf iv).toNat)
      case atStart => exact ⟨0, p, -1, by omega, rfl, rfl, T0.out, HB2.out, HK2.out⟩
      case round =>
        clear HB2 HK2 T0
        obtain ⟨i, q, last, hi, rfl, rfl, ht, hb, hk⟩ := hrel
        have HB := hx hb
        have HK := hx hk
        have HTr := hx ht
        have hlast : last = -1 ∨ (0 ≤ last ∧ last < i) := by
          rcases ht.lst with h | ⟨h, g, _⟩
          · exact .inl h
          · exact .inr ⟨h, g⟩
        clear hb hk ht
        by_cases hlt : (i : Int) < ticks
        · have HT := hx (ptick m q wr 100 _ HB.out HTr.out.ok (by omega))
          obtain ⟨f, hf⟩ : ∃ f, f = (tickP q).2 := ⟨_, rfl⟩
          rw [← hf] at HT
          cases f
          · have HN2 := hx (HTr.out.no hf.symm)
            have h80 : 0 ≤ last → (i : Int) - last < 80 := HN2.out.2
            clear hf
            go_wp2_with fail
            refine HT.out.mono ?_
            rintro e w7 ⟨rfl, hb7, hk7⟩
            have HB7 := hx hb7
            have HK7 := hx (Kept.behind HK.out hk7 HM.out)
            clear hb7 hk7 HT HB HK
            rcases hlast with rfl | ⟨hl0, hl1⟩
            · clear h80
              go_wp2
              go_roundw
              case rel => exact ⟨i + 1, _, -1, by omega, by go_num, rfl, HN2.out.1, HB7.out, HK7.out⟩
              case measure => simp [intOf] <;> omega
            · have h80' := h80 hl0
              clear h80
              go_wp2
              go_roundw
              case rel => exact ⟨i + 1, _, last, by omega, by go_num, rfl, HN2.out.1, HB7.out, HK7.out⟩
              case measure => simp [intOf] <;> omega
          · have HN2 := hx (HTr.out.yes hf.symm)
            have h20 := HN2.out.2.1
            have h5 := HN2.out.2.2
            clear hf
            go_wp2_with fail
            refine HT.out.mono ?_
            rintro e w7 ⟨rfl, hb7, hk7⟩
            have HB7 := hx hb7
            have HK7 := hx (Kept.behind HK.out hk7 HM.out)
            clear hb7 hk7 HT HB HK
            rcases hlast with rfl | ⟨hl0, hl1⟩
            · clear h5
              go_wp2
              go_roundw
              case rel => exact ⟨i + 1, _, i, by omega, by go_num, rfl, HN2.out.1, HB7.out, HK7.out⟩
              case measure => simp [intOf] <;> omega
            · have h5' := h5 hl0
              clear h5
              go_wp2
              go_roundw
              case rel => exact ⟨i + 1, _, i, by omega, by go_num, rfl, HN2.out.1, HB7.out, HK7.out⟩
              case measure => simp [intOf] <;> omega
        · have HH := hx (pheard m n q wr 100 _ HB.out HTr.out.ok (by omega) HN.out)
          have HH2 := hx (heard_ok q n 100 _ HTr.out.ok HN.out (by omega) (by omega))
          have hq := heard_quiet q n
          clear hlast
          obtain ⟨r, hr⟩ : ∃ r, r = (heardP q n).1 := ⟨_, rfl⟩
          rw [← hr] at HH HH2 hq
          clear hr
          go_wp2_with fail
          refine HH.out.mono ?_
          rintro e w7 ⟨rfl, hb7, hk7⟩
          have HK7 := hx (Kept.behind HK.out hk7 HM.out)
          have c11 := hb7.cell (i := 11) (v := .int .i64 r.quiet) rfl
          have HS := hx (state_any m 0 _ _ r w7 hb7 (Part.all _))
          have HT := hx (ptick m r w7 101 _ hb7 HH2.out (by omega))
          rw [tick_0 r hq] at HT
          rw [hq] at HS c11
          rw [show stateI 0 = 0 from rfl] at HS
          clear hb7 hk7 HH HB HK HTr HH2 hq
          go_wp2_with fail
          refine HS.out.mono ?_
          rintro e w8 ⟨rfl, rfl⟩
          go_wp2_with fail
          refine HT.out.mono ?_
          rintro e w9 ⟨rfl, hb9, hk9⟩
          have HK9 := hx (Kept.behind HK7.out hk9 HM.out)
          clear hb9 hk9 HT HS HK7
          go_wp2
          go_ret
          exact ⟨rfl, HK9.out⟩
end Go.Proofs.Ythkjllphefnphaa
