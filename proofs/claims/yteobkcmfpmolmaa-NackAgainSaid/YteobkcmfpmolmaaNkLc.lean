/- nack: the law that what is waited for is told again and again. -/
import Derived.Test.YteobkcmfpmolmaaNkLb
import Derived.Test.YteobkcmfpmolmaaNkAg
import Derived.BigGuardPart
namespace Go.Proofs.Yteobkcmfpmolmaa
open Go Go.RowKit Go.Shelf Go.Deep Go.OpenShut Go.ChangeShapes Go.WideShapes Go.ChangeAt
section
variable {H : Type} {enc : TypeId × Value → H} {w : World} {base : Nat} {spare : Nat → Bool} {held : Bool}
theorem opn4_of {cs : List Value} (hr : Rd enc Try.prog w base spare held 33 cs) : ∃ k m t u : Int, cs = op4 k m t u ∧ (Lit.int .u32 m).wf = true := by
  have c3 : Try.prog.cellsOf 33 = 4 := by kernel_rfl
  have ci : Try.prog.cellsOf 3 = 1 := by kernel_rfl
  have ci6 : Try.prog.cellsOf 31 = 1 := by kernel_rfl
  have hlen := hr.len Try.underlying33
  rw [c3] at hlen
  obtain ⟨k, e0, _⟩ := (hr.field Try.underlying33 0 _ rfl).int Try.underlying3
  obtain ⟨m, e1, hmw⟩ := (hr.field Try.underlying33 1 _ rfl).int Try.underlying31
  obtain ⟨t, e2, _⟩ := (hr.field Try.underlying33 2 _ rfl).int Try.underlying3
  obtain ⟨u, e3, _⟩ := (hr.field Try.underlying33 3 _ rfl).int Try.underlying3
  change (cs.drop 0).take (Try.prog.cellsOf 3) = _ at e0
  change (cs.drop 1).take (Try.prog.cellsOf 31) = _ at e1
  change (cs.drop 2).take (Try.prog.cellsOf 3) = _ at e2
  change (cs.drop 3).take (Try.prog.cellsOf 3) = _ at e3
  rw [ci] at e0 e2 e3
  rw [ci6] at e1
  have g0 : cs[0]? = some (.int .i64 k) := at_of e0
  have g1 : cs[1]? = some (.int .u32 m) := at_of e1
  have g2 : cs[2]? = some (.int .i64 t) := at_of e2
  have g3 : cs[3]? = some (.int .i64 u) := at_of e3
  refine ⟨k, m, t, u, ?_, hmw⟩
  apply List.ext_getElem?
  intro j
  match j with
  | 0 => rw [g0]; rfl
  | 1 => rw [g1]; rfl
  | 2 => rw [g2]; rfl
  | 3 => rw [g3]; rfl
  | j + 4 => rw [List.getElem?_eq_none (by omega)]; rfl
end
theorem mem_take_step {l : List Int} {k : Int} {j : Nat} (hj : j < l.length) : decide (k ∈ l.take (j + 1)) = (decide (k ∈ l.take j) || (l.getD j 0 == k)) := by
  have e : l.getD j 0 = l[j] := by simp [List.getD, hj]
  have e2 : l.take (j + 1) = l.take j ++ [l[j]] := by rw [List.take_add_one, List.getElem?_eq_getElem hj]; rfl
  rw [e, e2]
  by_cases h1 : k ∈ l.take j
  · have h2 : k ∈ l.take j ++ [l[j]] := List.mem_append_left _ h1
    rw [decide_eq_true h1, decide_eq_true h2, Bool.true_or]
  · rw [decide_eq_false h1, Bool.false_or]
    by_cases h2 : l[j] = k
    · rw [decide_eq_true (show k ∈ l.take j ++ [l[j]] from List.mem_append_right _ (by simp [h2]))]
      simp [h2]
    · rw [decide_eq_false (show ¬ k ∈ l.take j ++ [l[j]] from fun h => by
        rcases List.mem_append.1 h with h | h
        · exact h1 h
        · simp only [List.mem_singleton] at h
          exact h2 h.symm)]
      simp [h2]
set_option maxRecDepth 100000 in
set_option maxHeartbeats 25600000 in
theorem law_nack_again (room : Int) (a : Option Addr) (len cap : Nat) (x1 k t x4 : Int) (w : World) (hA : Opn w a len cap) (hk : (Lit.int .u32 k).wf = true) :
    Calls Try.prog 4 #[.int .i64 room, .slice a len cap, .agg #[.int .i64 x1, .int .u32 k, .int .i64 t, .int .i64 x4]] w fun e w' => e = .returned (.bool true) ∧ Kept [] w w' := by
  have KA := hx ((Kept.refl [] w).alloc (.cells #[.int .i64 x1, .int .u32 k, .int .i64 t, .int .i64 x4] 33))
  have BA := hx (Blk.new w (op4 x1 k t x4) 33)
  have HA := hx (hA.kept KA.out)
  have HKW := hx hk
  clear hA hk
  go_enter Try.func4, Try.ntmps4
  go_upto_region 1 with fail
  have BA' := hx (show Blk (w.alloc (.cells #[.int .i64 x1, .int .u32 k, .int .i64 t, .int .i64 x4] 33)) w.heap.size (op4 x1 k t x4) 33 from BA.out)
  clear BA
  generalize w.alloc (.cells #[.int .i64 x1, .int .u32 k, .int .i64 t, .int .i64 x4] 33) = W0 at *
  go_wp2_with fail
  refine (nawake_any _).mono ?_
  rintro e w1 ⟨rfl, hk1⟩
  have HK1 := hx (KA.out.trans0 hk1)
  have B1 := hx (hk1.blk BA'.out (by simp))
  have HP := hx (nplayed_any room a len cap w1 (HA.out.kept hk1))
  clear hk1 KA BA' HA
  go_wp2_with fail
  refine HP.out.mono ?_
  rintro e w2 hp
  rcases hp with ⟨rfl, hk2⟩ | ⟨_, _, p, q, mb, n, v, now, no, asked, full, h, s, f, b, ln, c, rfl, hd⟩
  · have HK2 := hx ((HK1.out.trans0 hk2).alloc (.cells #[.int .i64 room, .int .i64 0, .int .i64 0, .slice none 0 0] 27))
    clear hk2 HK1 HP
    go_wp2_with fail
    go_ret
    exact ⟨rfl, HK2.out⟩
  · have KL := hx ((Kept.refl [] w2).alloc (.cells #[.int .i64 room, .int .i64 asked, .int .i64 full, .slice b ln c] 27))
    have B8 := hx (Blk.new w2 (ls4 room asked full (.slice b ln c)) 27)
    have D2 := hx ((hd.pn.base HK1.out).kept KL.out)
    have L2 := hx (hd.ls.kept KL.out)
    have N2 := hx (And.intro hd.hn hd.hc)
    have B2 := hx ((hd.pn.k.trans0 KL.out).blk B1.out (by simp))
    have HG8 := hx (show w.heap.size < w2.heap.size from Nat.lt_of_lt_of_le B1.out.lt hd.pn.k.size)
    clear hd HK1 HP B1
    go_upto_region 4 with fail
    have B8' := hx (show Blk (w2.alloc (.cells #[.int .i64 room, .int .i64 asked, .int .i64 full, .slice b ln c] 27)) w2.heap.size (ls4 room asked full (.slice b ln c)) 27 from B8.out)
    clear B8
    clear KL
    generalize w2.heap.size = g8 at *
    generalize w2.alloc (.cells #[.int .i64 room, .int .i64 asked, .int .i64 full, .slice b ln c] 27) = W at *
    have o1 := B2.out.cell (i := 1) rfl
    have o2 := B2.out.cell (i := 2) rfl
    have c80 := B8'.out.cell (i := 0) rfl
    have c81 := B8'.out.cell (i := 1) rfl
    have c82 := B8'.out.cell (i := 2) rfl
    have c83 := B8'.out.cell (i := 3) rfl
    have HHS := hx (fun (W1 : World) (hk : Kept [] W W1) => rhas_any b ln c (s.map (itN now f)) room asked full k W1 (L2.out.kept hk) (by rw [List.length_map]; exact N2.out.1) (by have h1 := D2.out.hr; have h2 := D2.out.r64; have h3 := N2.out.1; omega))
    have HKE := hx D2.out.k
    by_cases t1 : t < 1
    · have td := decide_eq_true t1
      go_wp2
      go_ret
      exact ⟨rfl, HKE.out⟩
    have td1 := decide_eq_false t1
    by_cases t2 : 4 < t
    · have td := decide_eq_true t2
      go_wp2
      go_ret
      exact ⟨rfl, HKE.out⟩
    have td2 := decide_eq_false t2
    have HT := hx (show 1 ≤ t ∧ t ≤ 4 by omega)
    clear t1 t2
    cases hh : hasN k (s.map (itN now f))
    · rw [hh] at HHS
      have HHN := hx hh
      have HWT := hx (fun (W1 : World) (hk : Kept [] W W1) => pwait_any (D2.out.kept hk) (by omega) k t HKW.out)
      have HWR := hx (show waitR room full (s.map (itN now f)) k t = if room ≤ (s.map (itN now f)).length then (s.map (itN now f), full + 1) else (putN (k, heldN t, 0) (s.map (itN now f)), full) by unfold waitR; rw [if_neg (by rw [hh]; simp)])
      clear hh
      go_upto_region 7 with (first
        | (go_at_call 8; refine (HHS.out W (Kept.refl [] W)).mono ?_; rintro e w3 ⟨rfl, hk3⟩; have HK3 := hx hk3; have o1 := (hk3.blk B2.out (by simp)).cell (i := 1) rfl; have o2 := (hk3.blk B2.out (by simp)).cell (i := 2) rfl; clear hk3)
        | (go_at_call 9; refine (HWT.out _ HK3.out).mono ?_; rintro e w4 ⟨rfl, v4, no4, full4, h4, s4, f4, n4, hkk, hpn, heq, _⟩; have KK4 := hx hkk; have D4 := hx hpn; have E4 := hx heq; clear hkk hpn heq))
      have B84 := hx (blk_nk (D2.out.kept HK3.out).nk KK4.out (HK3.out.blk B8'.out (by simp)) (by decide) (by decide) (by decide))
      have B24 := hx (blk_nk (D2.out.kept HK3.out).nk KK4.out (HK3.out.blk B2.out (by simp)) (by decide) (by decide) (by decide))
      have HLN := hx (show (s.map (itN now f)).length = ln by rw [List.length_map]; exact N2.out.1)
      rw [HLN.out, E4.out] at HWR
      clear o1 o2 c80 c81 c82 c83 HHS HWT KK4 E4 D2 L2 N2 B2 B8'
      have c83 := B84.out.cell (i := 3) rfl
      have o1 := B24.out.cell (i := 1) rfl
      have o2 := B24.out.cell (i := 2) rfl
      by_cases hr : room ≤ (ln : Int)
      · rw [if_pos hr] at HWR
        have HHA := hx (phas_any D4.out (by omega) k)
        rw [show s4.map (itN now f4) = s.map (itN now f) from congrArg Prod.fst HWR.out, HHN.out] at HHA
        clear HWR
        go_wp2_with (go_at_call 10; refine HHA.out.mono ?_; rintro e w5 ⟨rfl, hk5⟩; have HK5 := hx (D4.out.k.trans0 hk5); clear hk5)
        go_ret
        exact ⟨rfl, HK5.out⟩
      · rw [if_neg hr] at HWR
        have HAG := hx (Ag.start HT.out.1 HT.out.2 (show s4.map (itN now f4) = putN (k, heldN t, 0) (s.map (itN now f)) from congrArg Prod.fst HWR.out))
        clear HWR HHN HLN
        go_upto_region 11 with fail
        clear c83 o1 o2
        go_loopw [10, 11, 12] (fun lv gv iv wr => ∃ (j n : Nat) (v : Value) (nw no asked full last gap : Int) (h s : List En) (f : Int → Int), j ≤ 400 ∧ lv = .int .i64 last ∧ gv = .int .i64 gap ∧ iv = .int .i64 ((j : Int) + 1) ∧ Pn w wr p q mb n v room nw no asked full h s f (240064 + j * 64) ∧ Ag t now k s f nw j last gap ∧ Blk wr w.heap.size (op4 x1 k t x4) 33) (fun _ _ iv _ => 401 - (intOf iv).toNat)
        case atStart => exact ⟨0, _, _, _, _, _, _, _, _, _, _, _, by omega, rfl, rfl, rfl, D4.out.mono (by omega), HAG.out, B24.out⟩
        case round =>
          clear D4 HAG B24 B84
          obtain ⟨j, n, v, nw, no, asked, full, last, gap, h, s, f, hj, rfl, rfl, rfl, hd, ha, hb⟩ := hrel
          have HD := hx hd
          have HAG := hx ha
          have HB := hx hb
          have o1 := hb.cell (i := 1) rfl
          have o2 := hb.cell (i := 2) rfl
          clear hd ha hb
          by_cases hlt : j < 400
          · have hji : (j : Int) + 1 ≤ 400 := by omega
            have HTK := hx (ptick_any HD.out (by omega) t)
            have HLW := hx (HAG.out.tick HD.out.tp HD.out.tr HT.out.1 HT.out.2)
            have HTL := hx (show (toldN (s.map (itN nw f))).length ≤ 64 by have h0 := told_len (s.map (itN nw f)); rw [List.length_map] at h0; have h1 := HD.out.hr; have h2 := HD.out.r64; omega)
            go_upto_region 16 with (go_at_call 11; refine HTK.out.mono ?_; rintro e w5 ⟨v5, no5, h5, s5, f5, n5, a5, c5, rfl, hkk, hpn, hik, _, _, _, hsf, hout⟩; have K5 := hx hkk; have D5 := hx hpn; have I5 := hx hik; have S5 := hx hsf; have O5 := hx hout; clear hkk hpn hik hsf hout)
            have B5 := hx (blk_nk HD.out.nk K5.out HB.out (by decide) (by decide) (by decide))
            have HSE := hx (Prod.mk.inj S5.out)
            have HL2 := hx (show (k ∈ (toldN (s.map (itN nw f))).map (·.1) → gap ≤ (j : Int) + 1 - last ∧ Ag t now k s5 f5 (nw + 1) ((j : Int) + 1) ((j : Int) + 1) ((j : Int) + 1 - last)) ∧ (k ∉ (toldN (s.map (itN nw f))).map (·.1) → (j : Int) + 1 - last ≤ 32 * t ∧ Ag t now k s5 f5 (nw + 1) ((j : Int) + 1) last gap) by
              rw [O5.out, HSE.out.1, HSE.out.2]
              exact HLW.out)
            have HBL := hx (show 0 ≤ last ∧ last ≤ j from ⟨HAG.out.l0, HAG.out.l1⟩)
            have HM := hx (show ((toldN (s.map (itN nw f))).map (·.1)).length = (toldN (s.map (itN nw f))).length by rw [List.length_map])
            clear HTK HLW HD HAG HB K5 S5 O5 HSE o1 o2
            generalize (toldN (s.map (itN nw f))).map (·.1) = ol at *
            generalize (toldN (s.map (itN nw f))).length = m at *
            have hm64 : m ≤ 64 := HTL.out
            go_loopw [14, 15] (fun tv zv wx => ∃ (z : Nat), z ≤ m ∧ zv = .int .i64 z ∧ tv = .bool (decide (k ∈ ol.take z)) ∧ Kept [] w5 wx) (fun _ zv _ => m - (intOf zv).toNat)
            case atStart => exact ⟨0, by omega, rfl, by simp, Kept.refl _ _⟩
            case round =>
              obtain ⟨z, hz, rfl, rfl, hkz⟩ := hrel
              have HKZ := hx hkz
              by_cases hzm : z < m
              · have hzm2 : (z : Int) < (m : Int) := by omega
                have hzl : z < ol.length := by have h1 := HM.out; omega
                obtain ⟨g, off, rfl, e1⟩ := (I5.out.kept hkz) z hzl
                have o1 := (hkz.blk B5.out (by simp)).cell (i := 1) rfl
                have HST := hx (mem_take_step (k := k) hzl)
                clear hkz
                generalize decide (k ∈ ol.take z) = bz at *
                generalize ol.getD z 0 = y at *
                cases bz
                · go_upto_region 18 with fail
                  go_quiet (fail)
                  have HKd := hx (HKZ.out.drewN nq)
                  go_wp2
                  go_roundw
                  case rel => exact ⟨z + 1, by omega, by go_num, by rw [HST.out]; rfl, HKd.out⟩
                  case measure => simp [intOf] <;> omega
                · go_upto_region 18 with fail
                  go_quiet (fail)
                  have HKd := hx (HKZ.out.drewN nq)
                  go_wp2
                  go_roundw
                  case rel => exact ⟨z + 1, by omega, by go_num, by rw [HST.out]; rfl, HKd.out⟩
                  case measure => simp [intOf] <;> omega
              · obtain rfl : z = m := by omega
                have o2 := (hkz.blk B5.out (by simp)).cell (i := 2) rfl
                have HZ := hx (show ol.take z = ol by rw [← HM.out, List.take_length])
                rw [HZ.out]
                have hht := HT.out
                have hbl := HBL.out
                have hw1 : IntKind.i64.wrap ((j : Int) + 1 - last) = (j : Int) + 1 - last := by rw [IntKind.wrap_i64]; omega
                have hw2 : IntKind.i64.wrap (32 * t) = 32 * t := by rw [IntKind.wrap_i64]; omega
                have hzz : ¬ (z : Int) < (z : Int) := by omega
                clear hkz
                by_cases hk : k ∈ ol
                · have HR := hx (HL2.out.1 hk)
                  have hkd := decide_eq_true hk
                  have hng : ¬ (j : Int) + 1 - last < gap := by have h1 := HR.out.1; omega
                  have hn0 : ¬ 32 * t < 0 := by omega
                  clear hk HL2 hht hbl
                  rw [hkd]
                  clear hkd
                  go_wp2
                  go_roundw
                  case rel => exact ⟨j + 1, n5, v5, nw + 1, no5, _, full, (j : Int) + 1, (j : Int) + 1 - last, h5, s5, f5, by omega, rfl, rfl, by go_num, (D5.out.kept HKZ.out).mono (by omega), by have h1 := HR.out.2; have e : ((j + 1 : Nat) : Int) = (j : Int) + 1 := (by omega); rw [e]; exact h1, HKZ.out.blk B5.out (by simp)⟩
                  case measure => simp [intOf] <;> omega
                · have HR := hx (HL2.out.2 hk)
                  have hkd := decide_eq_false hk
                  have hng : ¬ 32 * t < (j : Int) + 1 - last := by have h1 := HR.out.1; omega
                  clear hk HL2 hht hbl
                  rw [hkd]
                  clear hkd
                  go_wp2
                  go_roundw
                  case rel => exact ⟨j + 1, n5, v5, nw + 1, no5, _, full, last, gap, h5, s5, f5, by omega, rfl, rfl, by go_num, (D5.out.kept HKZ.out).mono (by omega), by have h1 := HR.out.2; have e : ((j + 1 : Nat) : Int) = (j : Int) + 1 := (by omega); rw [e]; exact h1, HKZ.out.blk B5.out (by simp)⟩
                  case measure => simp [intOf] <;> omega
          · obtain rfl : j = 400 := by omega
            have hji : ¬ ((400 : Nat) : Int) + 1 ≤ 400 := by omega
            have HHA := hx (phas_any HD.out (by omega) k)
            rw [HAG.out.has nw] at HHA
            have hla : 0 < last := HAG.out.late HD.out.tp HT.out.2 (by omega)
            have KE := hx HD.out.k
            clear HD HAG
            go_wp2_with (go_at_call 10; refine HHA.out.mono ?_; rintro e w7 ⟨rfl, hk7⟩; have HK7 := hx (KE.out.trans0 hk7); clear hk7)
            go_ret
            exact ⟨rfl, HK7.out⟩
    · rw [hh] at HHS
      go_wp2_with ((go_at_call 8; refine (HHS.out W (Kept.refl [] W)).mono ?_; rintro e w3 ⟨rfl, hk3⟩; have HK3 := hx hk3; clear hk3))
      go_ret
      exact ⟨rfl, HKE.out.trans0 HK3.out⟩
end Go.Proofs.Yteobkcmfpmolmaa
