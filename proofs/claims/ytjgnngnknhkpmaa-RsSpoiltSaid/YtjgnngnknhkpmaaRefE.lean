/- The document's lengths, Encode and Same. -/
import Derived.Test.YtjgnngnknhkpmaaRsE
import Derived.Laws.BytesArg
namespace Go.Proofs.Ytjgnngnknhkpmaa
open Go Go.RowKit
set_option maxRecDepth 100000 in
set_option maxHeartbeats 3200000 in
theorem rlength_any (a : Option Addr) (c : Nat) (ls : List (List Nat)) (w : World) (hC : Cs w a ls) (h1 : 1 ≤ ls.length) (h9 : ls.length ≤ 1000) :
    Calls Try.prog 33 #[.slice a ls.length c] w fun e w' => (EqL ls ∧ e = .returned (.bool true) ∨ ¬ EqL ls ∧ e = .returned (.bool false)) ∧ Kept [] w w' := by
  generalize hPP : (fun (e : Ending) (w' : World) => (EqL ls ∧ e = .returned (.bool true) ∨ ¬ EqL ls ∧ e = .returned (.bool false)) ∧ Kept [] w w') = PP
  have HP0 := hx (fun (h : EqL ls) w' (hk : Kept [] w w') => show PP (.returned (.bool true)) w' by rw [← hPP]; exact ⟨.inl ⟨h, rfl⟩, hk⟩)
  have HP1 := hx (fun (h : ¬ EqL ls) w' (hk : Kept [] w w') => show PP (.returned (.bool false)) w' by rw [← hPP]; exact ⟨.inr ⟨h, rfl⟩, hk⟩)
  have HE := hx (show EqL ls ↔ (rw ls 0).length ≤ 1200 ∧ ∀ j, j < ls.length → (rw ls j).length = (rw ls 0).length from Iff.rfl)
  obtain ⟨b, o, a0, c0, rfl, hc0, _⟩ := hC 0 (by omega)
  rw [Nat.add_zero] at hc0
  have HC := hx (fun i (hi : i < ls.length) => hC i hi)
  have h9i : (ls.length : Int) ≤ 1000 := by omega
  have h1i : (1 : Int) ≤ (ls.length : Int) := by omega
  clear hPP hC
  generalize (rw ls 0).length = n at *
  generalize ls.length = k at *
  go_enter Try.func33, Try.ntmps33
  go_wp2_with fail
  go_loopw [3] (fun iv wr => ∃ i : Nat, i ≤ k ∧ iv = .int .i64 i ∧ (∀ j, j < i → (rw ls j).length ≤ 1200 ∧ (rw ls j).length = n) ∧ Kept [] w wr) (fun iv _ => k - (intOf iv).toNat)
  case atStart => exact ⟨0, by omega, rfl, fun j hj => absurd hj (by omega), Kept.refl _ _⟩
  case round =>
    obtain ⟨i, hi, rfl, hall, hk⟩ := hrel
    have HA := hx hall
    have HK := hx hk
    clear hall
    by_cases hlt : i < k
    · have hji : (i : Int) < (k : Int) := by omega
      obtain ⟨bd, od, ai, ci, ha, hcd, _⟩ := HC.out i hlt
      simp only [Option.some.injEq, Addr.mk.injEq, and_true] at ha
      obtain ⟨rfl, rfl⟩ := ha
      have hkd : Kept [] wr wr.drew := (Kept.refl [] wr).drew
      by_cases hq : (rw ls i).length ≤ 1200
      · by_cases hE : (rw ls i).length = n
        · have HE2 := hx (And.intro hq hE)
          rw [hE] at hcd hq
          have hni : ¬ (1200 : Int) < (n : Int) := by omega
          have hnn : ((n : Int) != (n : Int)) = false := by simp
          have e1 := kept_cell hk hcd
          have e0 := kept_cell hk hc0
          have f1 := kept_cell hkd e1
          have f0 := kept_cell hkd e0
          clear hE hk hkd
          go_upto_region 4 with fail
          go_region
          all_goals
            go_wp2_with fail
            go_roundw
            case rel => exact ⟨i + 1, by omega, by go_num, fun j hj => by
              by_cases hj2 : j < i
              · exact HA.out j hj2
              · obtain rfl : j = i := by omega
                exact HE2.out, HK.out.drew⟩
            case measure => simp [intOf] <;> omega
        · have HQ := hx (HP1.out (fun h => hE ((HE.out.1 h).2 i hlt)) wr.drew (HK.out.drew))
          have e1 := kept_cell hk hcd
          have e0 := kept_cell hk hc0
          have f1 := kept_cell hkd e1
          have f0 := kept_cell hkd e0
          generalize (rw ls i).length = q at *
          have hni : ¬ (1200 : Int) < (q : Int) := by omega
          have hnn : ((q : Int) != (n : Int)) = true := bne_iff_ne.2 (by omega)
          clear hk hkd hE
          go_upto_region 4 with fail
          go_region
          all_goals
            go_wp2_with fail
            try go_ret
            exact HQ.out
      · have HQ := hx (HP1.out (fun h => hq (by rw [(HE.out.1 h).2 i hlt]; exact (HE.out.1 h).1)) wr.drew (HK.out.drew))
        have e1 := kept_cell hk hcd
        have f1 := kept_cell hkd e1
        generalize (rw ls i).length = q at *
        have hni : (1200 : Int) < (q : Int) := by omega
        clear hk hkd hq
        go_upto_region 4 with fail
        go_region
        all_goals
          go_wp2_with fail
          try go_ret
          exact HQ.out
    · obtain rfl : i = k := by omega
      have HQ := hx (HP0.out (HE.out.2 ⟨by have h := HA.out 0 (by omega); omega, fun j hj => (HA.out j hj).2⟩) wr HK.out)
      clear hk
      go_wp2_with fail
      try go_ret
      exact HQ.out
theorem tab_push {α : Type} (n : Nat) (f : Nat → α) : tab (n + 1) f = tab n f ++ [f n] := by simp [tab, List.range_succ]
/-- The document's parity. -/
def encR (k n : Nat) (ls : List (List Nat)) (i : Nat) : List (List Nat) := tab i fun q => mulRow n ls (wts (List.range k) (k + q)) k
set_option maxRecDepth 100000 in
set_option maxHeartbeats 8000000 in
theorem renc_any (k m n c2 : Nat) (ls : List (List Nat)) (a2 : Option Addr) (w : World) (hl : Mt k n ls) (h1 : 1 ≤ k) (hkm : k + m ≤ 255) (hC : Cs w a2 ls) (hE : EqL ls) (hn : n ≤ 1200) :
    Calls Try.prog 14 #[.int .i64 k, .int .i64 m, .slice a2 ls.length c2] w fun e w' => ∃ a c, e = .returned (.tuple #[.slice a m c, .int .i64 0]) ∧ Cs w' a (encR k n ls m) ∧ Kept [] w w' := by
  have HL := hx ((rlength_any a2 c2 ls w hC (by rw [hl.rows]; omega) (by rw [hl.rows]; omega)).mono (R' := fun e w' => e = .returned (.bool true) ∧ Kept [] w w') (by
    rintro e w' ⟨h2, h3⟩
    rcases h2 with h2 | h2
    · exact ⟨h2.2, h3⟩
    · exact absurd hE h2.1))
  have HF := hx (fun w9 => rfirst_any k w9 (by omega))
  have HAT := hx (fun w9 al (q c3 : Nat) (hk : Kept [] w w9) (hq : k + q < 256) (hI : In w9 al (List.range k)) => show _ from rat_any al a2 (List.range k) c3 c2 (k + q) n ls w9 hI (fun x hx => by rw [List.mem_range] at hx; omega) (by rw [List.length_range]; exact h1) (by rw [List.length_range]; omega) hq (by rw [List.length_range]; exact hl) (hC.kept hk) (by omega))
  simp only [List.length_range] at HAT
  have HR := hx (fun i => show encR k n ls (i + 1) = encR k n ls i ++ [mulRow n ls (wts (List.range k) (k + i)) k] from tab_push _ _)
  have HRL := hx (fun i => show (encR k n ls i).length = i from tab_len _ _)
  have HML := hx (fun x => (mulRow_ok hl x k (Nat.le_refl _)).1)
  have hkl := hl.rows
  rw [hkl] at HL ⊢
  have hnn : ((k : Int) != (k : Int)) = false := by simp
  have hmi : (m : Int) ≤ 255 := by omega
  have hki : (k : Int) ≤ 255 := by omega
  have hk1 : (1 : Int) ≤ (k : Int) := by omega
  have hkmi : (k : Int) + (m : Int) ≤ 255 := by omega
  have HZ := hx (show encR k n ls 0 = [] from rfl)
  clear hl hC hE hkl
  go_enter Try.func14, Try.ntmps14
  go_wp2_with fail
  refine HL.out.mono ?_
  rintro e w1 ⟨rfl, hk1⟩
  have K1 := hx hk1
  clear HL hk1
  go_wp2_with fail
  go_loopw [8, 9] (fun ov iv wr => ∃ (i : Nat) (u : Value), i ≤ m ∧ iv = .int .i64 i ∧ u = ov ∧ Cl w.heap.size w.heap.size wr u (encR k n ls i) ∧ Kept [] w wr) (fun _ iv _ => m - (intOf iv).toNat)
  case atStart => exact ⟨0, _, by omega, rfl, rfl, by rw [HZ.out]; exact Cl.nil _ _ _, K1.out⟩
  case round =>
    clear K1
    obtain ⟨i, u, hi, rfl, rfl, ho, hk⟩ := hrel
    have HO := hx ho
    have HK := hx hk
    clear ho hk
    by_cases hlt : i < m
    · have hj : (i : Int) < (m : Int) := by omega
      have HE := hx (HR.out i)
      have HL := hx (HRL.out i)
      go_wp2_with fail
      refine (HF.out wr).mono ?_
      rintro e w2 ⟨af, cf, rfl, hin, hk2⟩
      have HK2 := hx (HK.out.trans0 hk2)
      have HO2 := hx (HO.out.kept hk2)
      have HA2 := hx (HAT.out w2 af i cf HK2.out (by omega) hin)
      have HM := hx (HML.out (wts (List.range k) (k + i)))
      generalize mulRow n ls (wts (List.range k) (k + i)) k = row at *
      obtain ⟨x, hxe⟩ : ∃ x, k + i = x := ⟨_, rfl⟩
      rw [hxe] at HA2
      have hxi : (k : Int) + (i : Int) = (x : Int) := by omega
      clear hin hk2 HO HK hxe
      go_wp2_with fail
      refine HA2.out.mono ?_
      rintro e w3 ⟨g, rfl, hbg, hg0, hk3⟩
      have HK3 := hx (HK2.out.trans0 hk3)
      have HB3 := hx hbg
      obtain ⟨sl, hs1, hs2, hs3⟩ := (HO2.out.kept hk3).rows
      have HS1 := hx hs1
      have HS2 := hx hs2
      have HS3 := hx hs3
      clear hbg hg0 hk3 HK2 HO2 HA2 hs1 hs2 hs3
      go_wp2_with (at_builtin; refine wpList_app rfl (.tmp 22) (.tmp 30) 22 rfl w.heap.size 39 (.slice none 0 0) 1 24 infoBs Try.underlying22 rfl (by omega) u sl.length sl rfl (World.ownsRow.alloc HS2.out _) (some ⟨_, 0, none⟩) 1 1 [.slice (some ⟨g, 0, none⟩) n n] rfl rfl (by simp) (by omega) (blk_news (Blk.new _ [.slice (some ⟨g, 0, none⟩) n n] 39)) (one_sl _ _ _) (by unfold maxLen; have := HS1.out; have := HL.out; omega) (by have := HS1.out; have := HL.out; omega) (HK3.out.alloc _).size ?_; intro u2 w8 ho8 hg8; have HK8 := hx ((HK3.out.alloc _).grown hg8 (fun q hq => .inr (HS2.out.lt q hq).1)); have HO8 := hx (Cl.push HS1.out (World.ownsRow.alloc HS2.out _) (fun j hj => by obtain ⟨ai, ci, p, q⟩ := HS3.out j hj; exact ⟨ai, ci, p, q.kept ((Kept.refl [] _).alloc _)⟩) (Nat.le_refl _) (Br.ofBlk (HB3.out.alloc _)) HM.out.symm ho8 hg8); clear ho8 hg8 HS2 HS3 HK3)
      go_wp2
      go_roundw
      case rel => exact ⟨i + 1, u2, by omega, by go_num, rfl, by rw [HE.out]; exact HO8.out, HK8.out⟩
      case measure => simp [intOf] <;> omega
    · obtain rfl : i = m := by omega
      obtain ⟨ax, cx, hv, _, hcs⟩ := HO.out.form
      rw [HRL.out] at hv
      subst hv
      have HCS := hx hcs
      clear hcs
      go_wp2_with fail
      go_ret2
      exact ⟨_, _, rfl, HCS.out, HK.out⟩
def strOf (l : List Nat) : ByteArray := strOfNums (l.map fun x : Nat => (x : Int))
theorem conv_bn {w : World} {a : Option Addr} {l : List Nat} (h : Bn w a l) (c : Nat) : (convert 39 9 (.slice a l.length c)).run Try.prog w = .ok (.string (strOf l)) w := by
  cases l with
  | nil =>
    rw [run_convert_bytes_string w 39 9 5 a _ c Try.underlying39 Try.underlying5 Try.underlying9]
    have h0 : strOf [] = ByteArray.empty := rfl
    rw [h0]
    cases a <;> simp [Conv.bytesToString, loadCells]
    all_goals rfl
  | cons y ys =>
    obtain ⟨b, o, rfl, _⟩ := h 0 (by simp)
    refine run_convert_bytes_arg w 39 5 Try.underlying39 Try.underlying5 b o _ c ((y :: ys).map fun x : Nat => (x : Int)) (by simp) (fun i hi => ?_) 9 Try.underlying9
    obtain ⟨b2, o2, h1, h2⟩ := h i hi
    simp only [Option.some.injEq, Addr.mk.injEq, and_true] at h1
    obtain ⟨rfl, rfl⟩ := h1
    rw [h2, bn, List.getD_eq_getElem?_getD, List.getD_eq_getElem?_getD, List.getElem?_map, List.getElem?_eq_getElem hi]
    rfl
set_option maxRecDepth 100000 in
set_option maxHeartbeats 3200000 in
theorem same_any (a b : Option Addr) (c1 c2 : Nat) (ls : List (List Nat)) (w : World) (hA : Cs w a ls) (hB : Cs w b ls) (h9 : ls.length ≤ 1000) :
    Calls Try.prog 15 #[.slice a ls.length c1, .slice b ls.length c2] w fun e w' => e = .returned (.bool true) ∧ Kept [] w w' := by
  have HA := hx (fun i (hi : i < ls.length) => hA i hi)
  have HB := hx (fun i (hi : i < ls.length) => hB i hi)
  have h9i : (ls.length : Int) ≤ 1000 := by omega
  clear hA hB
  generalize ls.length = k at *
  have hnn : ((k : Int) != (k : Int)) = false := by simp
  go_enter Try.func15, Try.ntmps15
  go_wp2_with fail
  go_loopw [5] (fun iv wr => ∃ i : Nat, i ≤ k ∧ iv = .int .i64 i ∧ Kept [] w wr) (fun iv _ => k - (intOf iv).toNat)
  case atStart => exact ⟨0, by omega, rfl, Kept.refl _ _⟩
  case round =>
    obtain ⟨i, hi, rfl, hk⟩ := hrel
    have HK := hx hk
    by_cases hlt : i < k
    · have hji : (i : Int) < (k : Int) := by omega
      obtain ⟨bd, od, ai, ci, rfl, hcd, hbn⟩ := HA.out i hlt
      obtain ⟨be, oe, aj, cj, rfl, hce, hbm⟩ := HB.out i hlt
      have hkd : Kept [] wr wr.drew := (Kept.refl [] wr).drew
      have e1 := kept_cell hk hcd
      have e0 := kept_cell hk hce
      have f1 := kept_cell hkd e1
      have f0 := kept_cell hkd e0
      have v1 := conv_bn (hbn.kept hk) ci
      have v2 := conv_bn (hbm.kept hk) cj
      have v3 := conv_bn (hbn.kept (hk.trans0 hkd)) ci
      have v4 := conv_bn (hbm.kept (hk.trans0 hkd)) cj
      generalize strOf (rw ls i) = s at *
      generalize (rw ls i).length = q at *
      clear hk hkd hcd hce hbn hbm
      go_upto_region 6 with fail
      go_region
      all_goals
        go_wp2_with fail
        go_roundw
        case rel => exact ⟨i + 1, by omega, by go_num, HK.out.drew⟩
        case measure => simp [intOf] <;> omega
    · obtain rfl : i = k := by omega
      clear hk
      go_wp2_with fail
      go_ret
      exact ⟨rfl, HK.out⟩
end Go.Proofs.Ytjgnngnknhkpmaa
