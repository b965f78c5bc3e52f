/- nack: the laws: any calls in any order; never more than there is room for. -/
import Derived.Test.YteobkcmfpmolmaaNkZ
import Derived.Test.YteobkcmfpmolmaaNkAw
namespace Go.Proofs.Yteobkcmfpmolmaa
open Go Go.RowKit Go.Shelf
set_option maxRecDepth 100000 in
set_option maxHeartbeats 3200000 in
theorem law_nack_plays (room : Int) (a : Option Addr) (len cap : Nat) (w : World) (hA : Opn w a len cap) :
    Calls Try.prog 3 #[.int .i64 room, .slice a len cap] w fun e w' => e = .returned (.bool true) ∧ Kept [] w w' := by
  have HA := hx hA
  clear hA
  go_enter Try.func3, Try.ntmps3
  go_wp2_with fail
  refine (nawake_any _).mono ?_
  rintro e w1 ⟨rfl, hk1⟩
  have HK1 := hx hk1
  have HP := hx (nplayed_any room a len cap w1 (HA.out.kept hk1))
  clear hk1
  go_wp2_with fail
  refine HP.out.mono ?_
  rintro e w2 hp
  rcases hp with ⟨rfl, hk2⟩ | ⟨_, _, p, q, mb, n, v, now, no, asked, full, h, s, f, b, ln, c, rfl, hd⟩
  · have HK2 := hx ((HK1.out.trans0 hk2).alloc (.cells #[.int .i64 room, .int .i64 0, .int .i64 0, .slice none 0 0] 27))
    clear hk2 HK1 HP
    go_wp2_with fail
    go_ret
    exact ⟨rfl, HK2.out⟩
  · have HK2 := hx ((HK1.out.trans0 hd.pn.k).alloc (.cells #[.int .i64 room, .int .i64 asked, .int .i64 full, .slice b ln c] 27))
    clear hd HK1 HP
    go_wp2_with fail
    go_ret
    exact ⟨rfl, HK2.out⟩
theorem has_not {k now : Int} {f : Int → Int} {s : List En} (h : ∀ x, x ∈ s → x.key ≠ k) : hasN k (s.map (itN now f)) = false := by
  unfold hasN
  rw [Bool.eq_false_iff]
  intro hc
  rw [List.any_eq_true] at hc
  obtain ⟨y, hy, h2⟩ := hc
  rw [List.mem_map] at hy
  obtain ⟨x, hx, rfl⟩ := hy
  simp only [itN, beq_iff_eq] at h2
  exact h x hx h2
set_option maxRecDepth 100000 in
set_option maxHeartbeats 12000000 in
theorem law_nack_rooms (room : Int) (a : Option Addr) (len cap : Nat) (k : Int) (w : World) (hA : Opn w a len cap) (hk : (Lit.int .u32 k).wf = true) :
    Calls Try.prog 5 #[.int .i64 room, .slice a len cap, .int .u32 k] w fun e w' => e = .returned (.bool true) ∧ Kept [] w w' := by
  have HA := hx hA
  have HKW := hx hk
  clear hA hk
  go_enter Try.func5, Try.ntmps5
  go_wp2_with fail
  refine (nawake_any _).mono ?_
  rintro e w1 ⟨rfl, hk1⟩
  have HK1 := hx hk1
  have HP := hx (nplayed_any room a len cap w1 (HA.out.kept hk1))
  clear hk1
  go_wp2_with fail
  refine HP.out.mono ?_
  rintro e w2 hp
  rcases hp with ⟨rfl, hk2⟩ | ⟨_, _, p, q, mb, n, v, now, no, asked, full, h, s, f, b, ln, c, rfl, hd⟩
  · have HK2 := hx ((HK1.out.trans0 hk2).alloc (.cells #[.int .i64 room, .int .i64 0, .int .i64 0, .slice none 0 0] 27))
    clear hk2 HK1 HP
    go_wp2_with fail
    go_ret
    exact ⟨rfl, HK2.out⟩
  · have D2 := hx ((hd.pn.base HK1.out).kept ((Kept.refl [] w2).alloc (.cells #[.int .i64 room, .int .i64 asked, .int .i64 full, .slice b ln c] 27)))
    clear hd HK1 HP
    go_upto_region 6 with fail
    generalize w2.alloc (.cells #[.int .i64 room, .int .i64 asked, .int .i64 full, .slice b ln c] 27) = W at *
    have HL := hx (nlen_any W D2.out.nk)
    have HST := hx (pstop_any D2.out (by omega) k HKW.out)
    have hgt : ¬ room < (h.length : Int) := by have h1 := D2.out.hr; have h2 := D2.out.tp.len; omega
    go_upto_region 9 with (first | (go_at_call 12; refine HL.out.mono ?_; rintro e w3 ⟨rfl, rfl⟩) | (go_at_call 13; refine HST.out.mono ?_; rintro e w4 ⟨rfl, v4, f4, _, hpn, _⟩; have D4 := hx hpn; clear hpn))
    have HS0 := hx (show ∀ x, x ∈ s.filter (notKey k) → x.key ≠ k from fun x hx => by
      have h2 := (List.mem_filter.1 hx).2
      simpa [notKey] using h2)
    generalize h.filter (notKey k) = h4 at *
    generalize s.filter (notKey k) = s4 at *
    clear HL HST hgt D2
    go_wp2_with fail
    go_loopw [10] (fun iv wr => ∃ (i n : Nat) (v : Value) (now no asked full : Int) (h s : List En) (f : Int → Int), i ≤ 300 ∧ iv = .int .i64 i ∧ Pn w wr p q mb n v room now no asked full h s f (240064 + i * 64) ∧ (∀ x, x ∈ s → x.key ≠ k)) (fun iv _ => 300 - (intOf iv).toNat)
    case atStart => exact ⟨0, _, _, _, _, _, _, _, _, _, by omega, rfl, D4.out.mono (by omega), HS0.out⟩
    case round =>
      clear D4 HS0
      obtain ⟨i, n, v, now, no, asked, full, h, s, f, hi, rfl, hd, hks⟩ := hrel
      have HD := hx hd
      have HKS := hx hks
      clear hd hks
      by_cases hlt : i < 300
      · have hj : (i : Int) < 300 := by omega
        have HT := hx (ptick_any HD.out (by omega) 3)
        go_upto_region 14 with (go_at_call 11; refine HT.out.mono ?_; rintro e w5 ⟨v5, no5, h5, s5, f5, n5, a5, c5, rfl, _, hpn, hik, _, _, hperm, _, hout⟩; have D5 := hx hpn; have I5 := hx hik; have P5 := hx hperm; have O5 := hx hout; clear hpn hik hperm hout)
        have HK5 := hx (show ∀ x, x ∈ s5 → x.key ≠ k from fun x hx e => by
          have h1 : x.key ∈ s.map (·.key) := P5.out.mem_iff.1 (List.mem_map_of_mem hx)
          rw [List.mem_map] at h1
          obtain ⟨y, hy, e2⟩ := h1
          exact HKS.out y hy (e2.trans e))
        have HO5 := hx (show ∀ y, y ∈ (toldN (s.map (itN now f))).map (·.1) → y ≠ k from fun y hy e => by
          rw [O5.out, List.mem_map] at hy
          obtain ⟨x, hx, e2⟩ := hy
          exact HKS.out x (List.mem_of_mem_take hx) (e2.trans e))
        have HM := hx (show ((toldN (s.map (itN now f))).map (·.1)).length = (toldN (s.map (itN now f))).length by rw [List.length_map])
        have HTL := hx (show (toldN (s.map (itN now f))).length ≤ 64 by have h0 := told_len (s.map (itN now f)); rw [List.length_map] at h0; have h1 := HD.out.hr; have h2 := HD.out.r64; omega)
        clear HT HD HKS P5 O5
        generalize (toldN (s.map (itN now f))).map (·.1) = ol at *
        generalize (toldN (s.map (itN now f))).length = m at *
        have hm64 : m ≤ 64 := HTL.out
        go_loopw [12] (fun jv wx => ∃ (j : Nat), j ≤ m ∧ jv = .int .i64 j ∧ wx = w5) (fun jv _ => m - (intOf jv).toNat)
        case atStart => exact ⟨0, by omega, rfl, rfl⟩
        case round =>
          obtain ⟨j, hj2, rfl, rfl⟩ := hrel
          by_cases hjm : j < m
          · have hjm2 : (j : Int) < (m : Int) := by omega
            have hjl : j < ol.length := by have h1 := HM.out; omega
            obtain ⟨g, off, rfl, e1⟩ := I5.out j hjl
            have hne := HO5.out (ol.getD j 0) (by rw [← List.getElem_eq_getD (h := hjl)]; exact List.getElem_mem hjl)
            generalize ol.getD j 0 = y at *
            have hyk : (y == k) = false := by simpa using hne
            clear hne
            go_wp2
            go_roundw
            case rel => exact ⟨j + 1, by omega, by go_num, trivial⟩
            case measure => simp [intOf] <;> omega
          · obtain rfl : j = m := by omega
            go_wp2
            go_roundw
            case rel => exact ⟨i + 1, n5, v5, now + 1, no5, _, full, h5, s5, f5, by omega, by go_num, D5.out.mono (by omega), HK5.out⟩
            case measure => simp [intOf] <;> omega
      · obtain rfl : i = 300 := by omega
        have hj : ¬ ((300 : Nat) : Int) < 300 := by omega
        have HH := hx (phas_any HD.out (by omega) k)
        rw [has_not HKS.out] at HH
        go_wp2_with (go_at_call 10; refine HH.out.mono ?_; rintro e w7 ⟨rfl, hk7⟩; have HK7 := hx (HD.out.k.trans0 hk7); clear hk7)
        go_ret
        exact ⟨rfl, HK7.out⟩
end Go.Proofs.Yteobkcmfpmolmaa
