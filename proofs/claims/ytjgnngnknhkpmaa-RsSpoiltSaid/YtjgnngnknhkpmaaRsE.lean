/- Codes: their lengths, and Encode. -/
import Derived.Test.YtjgnngnknhkpmaaRefA
import Derived.Test.YtjgnngnknhkpmaaRsB
namespace Go.Proofs.Ytjgnngnknhkpmaa
open Go Go.RowKit
/-- Are rows equally long, and not too long? -/
def EqL (ls : List (List Nat)) : Prop := (rw ls 0).length ≤ 1200 ∧ ∀ j, j < ls.length → (rw ls j).length = (rw ls 0).length
def LenP (w : World) (ls : List (List Nat)) (e : Ending) (w' : World) : Prop :=
  ∃ p q : Nat, e = .returned (.tuple #[.int .i64 (p : Int), .int .i64 (q : Int)]) ∧ (EqL ls ∧ p = (rw ls 0).length ∧ q = 0 ∨ ¬ EqL ls ∧ p = 0 ∧ q = 61) ∧ w = w'
set_option maxRecDepth 100000 in
set_option maxHeartbeats 1600000 in
theorem rslen_any (a : Option Addr) (c : Nat) (ls : List (List Nat)) (w : World) (hC : Cs w a ls) (h1 : 1 ≤ ls.length) (h9 : ls.length ≤ 1000) :
    Calls Try.prog 31 #[.slice a ls.length c] w (LenP w ls) := by
  generalize hPP : LenP w ls = PP
  have HP0 := hx (fun (h : EqL ls) => show PP (.returned (.tuple #[.int .i64 (((rw ls 0).length : Nat) : Int), .int .i64 0])) w by rw [← hPP]; exact ⟨_, 0, rfl, .inl ⟨h, rfl, rfl⟩, rfl⟩)
  have HP1 := hx (fun (h : ¬ EqL ls) => show PP (.returned (.tuple #[.int .i64 0, .int .i64 61])) w by rw [← hPP]; exact ⟨0, 61, rfl, .inr ⟨h, rfl, rfl⟩, rfl⟩)
  have HE := hx (show EqL ls ↔ (rw ls 0).length ≤ 1200 ∧ ∀ j, j < ls.length → (rw ls j).length = (rw ls 0).length from Iff.rfl)
  obtain ⟨b, o, a0, c0, rfl, hc0, _⟩ := hC 0 (by omega)
  rw [Nat.add_zero] at hc0
  have HC := hx (fun i (hi : i < ls.length) => hC i hi)
  have h9i : (ls.length : Int) ≤ 1000 := by omega
  have h1i : (1 : Int) ≤ (ls.length : Int) := by omega
  clear hPP hC
  generalize (rw ls 0).length = n at *
  generalize ls.length = k at *
  by_cases hn : n ≤ 1200
  · have hni : (n : Int) ≤ 1200 := by omega
    go_enter Try.func31, Try.ntmps31
    go_wp2_with fail
    go_loopw [15] (fun iv wr => ∃ i : Nat, i ≤ k ∧ iv = .int .i64 i ∧ (∀ j, j < i → (rw ls j).length = n) ∧ w = wr) (fun iv _ => k - (intOf iv).toNat)
    case atStart => exact ⟨0, by omega, rfl, fun j hj => absurd hj (by omega), rfl⟩
    case round =>
      obtain ⟨i, hi, rfl, hall, rfl⟩ := hrel
      have HA := hx hall
      clear hall
      by_cases hlt : i < k
      · have hji : (i : Int) < (k : Int) := by omega
        obtain ⟨bd, od, ai, ci, ha, hcd, _⟩ := HC.out i hlt
        simp only [Option.some.injEq, Addr.mk.injEq, and_true] at ha
        obtain ⟨rfl, rfl⟩ := ha
        by_cases hE : (rw ls i).length = n
        · have HE2 := hx hE
          rw [hE] at hcd
          have hnn : ((n : Int) != (n : Int)) = false := by simp
          clear hE
          go_wp2_with fail
          go_roundw
          case rel => exact ⟨i + 1, by omega, by go_num, fun j hj => by
            by_cases hj2 : j < i
            · exact HA.out j hj2
            · obtain rfl : j = i := by omega
              exact HE2.out, trivial⟩
          case measure => simp [intOf] <;> omega
        · have HQ := HP1.out (fun h => hE ((HE.out.1 h).2 i hlt))
          have HQ2 := hx HQ
          clear HQ
          generalize (rw ls i).length = q at *
          have hnn : ((q : Int) != (n : Int)) = true := bne_iff_ne.2 (by omega)
          go_wp2_with fail
          try go_ret2
          exact HQ2.out
      · obtain rfl : i = k := by omega
        have HQ := hx (HP0.out (HE.out.2 ⟨hn, HA.out⟩))
        go_wp2_with fail
        try go_ret2
        exact HQ.out
  · have hni : ¬ (n : Int) ≤ 1200 := by omega
    have HQ := hx (HP1.out (fun h => hn (HE.out.1 h).1))
    go_enter Try.func31, Try.ntmps31
    go_wp2_with fail
    try go_ret2
    exact HQ.out
/-- A code that may be. -/
structure Cod (w : World) (t g gr k m : Nat) (R : List (List Nat)) : Prop where
  c : Blk w g [.int .i64 (k : Int), .int .i64 (m : Int), .pointer (some ⟨t, 0, none⟩), .int .i64 ((k + m : Nat) : Int), .int .i64 (k : Int), .slice (some ⟨gr, 0, none⟩) ((k + m) * k) ((k + m) * k)] 69
  r : Blk w gr (cellsM R []) 5
  tb : Blk w t (tabC 255) 73
  mt : Mt (k + m) k R
  go : genRows k m = some R
theorem Cod.kept {w w2 : World} {t g gr k m : Nat} {R : List (List Nat)} (s : Cod w t g gr k m R) (hk : Kept [] w w2) : Cod w2 t g gr k m R := ⟨hk.blk s.c (by simp), hk.blk s.r (by simp), hk.blk s.tb (by simp), s.mt, s.go⟩
theorem cod_new {w w' : World} {t k m : Nat} {e : Ending} (hT : Blk w t (tabC 255) 73) (hkm : k + m ≤ 255) (h : CodP w t k m e w') : ∃ g gr R, e = .returned (.tuple #[.pointer (some ⟨g, 0, none⟩), .int .i64 0]) ∧ Cod w' t g gr k m R ∧ Kept [] w w' := by
  obtain ⟨g, h1, _, h3, h4⟩ := h
  obtain ⟨R, h5, _⟩ := genRows_ok k m hkm
  rw [h5] at h4
  obtain ⟨gr, h6, h7, h8⟩ := h4
  exact ⟨g, gr, R, h1, ⟨h6, h7, h3.blk hT (by simp), h8, h5⟩, h3⟩
set_option maxRecDepth 100000 in
set_option maxHeartbeats 800000 in
theorem data_any (t g gr k m : Nat) (R : List (List Nat)) (w : World) (s : Cod w t g gr k m R) :
    Calls Try.prog 16 #[.pointer (some ⟨g, 0, none⟩)] w fun e w' => e = .returned (.int .i64 (k : Int)) ∧ w = w' := by
  have c0 := s.c.cell (i := 0) rfl
  clear s
  go_enter Try.func16, Try.ntmps16
  go_wp2
  go_ret
  exact ⟨rfl, rfl⟩
set_option maxRecDepth 100000 in
set_option maxHeartbeats 800000 in
theorem parity_any (t g gr k m : Nat) (R : List (List Nat)) (w : World) (s : Cod w t g gr k m R) :
    Calls Try.prog 17 #[.pointer (some ⟨g, 0, none⟩)] w fun e w' => e = .returned (.int .i64 (m : Int)) ∧ w = w' := by
  have c0 := s.c.cell (i := 1) rfl
  clear s
  go_enter Try.func17, Try.ntmps17
  go_wp2
  go_ret
  exact ⟨rfl, rfl⟩
/-- The places of the parity shards. -/
def idx (k i : Nat) : List Nat := (List.range i).map (k + ·)
theorem idx_len (k i : Nat) : (idx k i).length = i := by simp [idx]
theorem idx_step (k i : Nat) : idx k (i + 1) = idx k i ++ [k + i] := by simp [idx, List.range_succ]
theorem idx_lt {k i x : Nat} (h : x ∈ idx k i) : x < k + i := by
  simp only [idx, List.mem_map, List.mem_range] at h
  obtain ⟨y, h1, rfl⟩ := h
  omega
theorem idx_at {k i q : Nat} (h : q < i) : (idx k i).getD q 0 = k + q := by
  simp [idx, List.getD_eq_getElem?_getD, h]
set_option maxRecDepth 100000 in
set_option maxHeartbeats 800000 in
theorem enc_bad1 (t g gr k m c2 : Nat) (R ls : List (List Nat)) (a2 : Option Addr) (w : World) (s : Cod w t g gr k m R) (hne : ls.length ≠ k) :
    Calls Try.prog 13 #[.pointer (some ⟨g, 0, none⟩), .slice a2 ls.length c2] w fun e w' => e = .returned (.tuple #[.slice none 0 0, .int .i64 60]) ∧ w = w' := by
  have c0 := s.c.cell (i := 0) rfl
  generalize ls.length = q at *
  have hnn : ((q : Int) != (k : Int)) = true := bne_iff_ne.2 (by omega)
  clear s
  go_enter Try.func13, Try.ntmps13
  go_wp2
  go_ret2
  exact ⟨rfl, rfl⟩
set_option maxRecDepth 100000 in
set_option maxHeartbeats 800000 in
theorem enc_bad2 (t g gr k m c2 : Nat) (R ls : List (List Nat)) (a2 : Option Addr) (w : World) (s : Cod w t g gr k m R) (hl : ls.length = k) (h1 : 1 ≤ k) (hk9 : k ≤ 255) (hC : Cs w a2 ls) (hE : ¬ EqL ls) :
    Calls Try.prog 13 #[.pointer (some ⟨g, 0, none⟩), .slice a2 ls.length c2] w fun e w' => e = .returned (.tuple #[.slice none 0 0, .int .i64 61]) ∧ w = w' := by
  have c0 := s.c.cell (i := 0) rfl
  have HL := hx (show Calls Try.prog 31 #[.slice a2 ls.length c2] w fun e w' => e = .returned (.tuple #[.int .i64 0, .int .i64 61]) ∧ w = w' from (rslen_any a2 c2 ls w hC (by omega) (by omega)).mono (by
    rintro e w' ⟨p, q, h1, h2, h3⟩
    rcases h2 with h2 | h2
    · exact absurd h2.1 hE
    · refine ⟨?_, h3⟩
      rw [h1, h2.2.1, h2.2.2]
      rfl))
  rw [hl] at HL ⊢
  have hnn : ((k : Int) != (k : Int)) = false := by simp
  clear s hC hE hl
  go_enter Try.func13, Try.ntmps13
  go_wp2_with fail
  refine HL.out.mono ?_
  rintro e w' ⟨rfl, rfl⟩
  go_wp2
  go_ret2
  exact ⟨rfl, rfl⟩
set_option maxRecDepth 100000 in
set_option maxHeartbeats 8000000 in
theorem enc_any2 (t g gr k m n c2 : Nat) (R ls : List (List Nat)) (a2 : Option Addr) (w : World) (s : Cod w t g gr k m R) (hl : Mt k n ls) (h1 : 1 ≤ k) (hkm : k + m ≤ 255) (hC : Cs w a2 ls) (hE : EqL ls) (hn : n ≤ 1200) :
    Calls Try.prog 13 #[.pointer (some ⟨g, 0, none⟩), .slice a2 ls.length c2] w fun e w' => ∃ a, e = .returned (.tuple #[.slice a m m, .int .i64 0]) ∧ (Cs w' a (mulM n (pickM R (idx k m)) ls) ∧ Caps w' a m n) ∧ Kept [] w w' := by
  have c0 := s.c.cell (i := 0) rfl
  have c1 := s.c.cell (i := 1) rfl
  have HL := hx (show Calls Try.prog 31 #[.slice a2 ls.length c2] w fun e w' => ∃ p : Nat, e = .returned (.tuple #[.int .i64 (p : Int), .int .i64 0]) ∧ w = w' from (rslen_any a2 c2 ls w hC (by rw [hl.rows]; omega) (by rw [hl.rows]; omega)).mono (by
    rintro e w' ⟨p, q, h1, h2, h3⟩
    rcases h2 with h2 | h2
    · refine ⟨p, ?_, h3⟩
      rw [h1, h2.2.2]
      rfl
    · exact absurd hE h2.1))
  have hkl := hl.rows
  rw [hkl] at HL ⊢
  have hnn : ((k : Int) != (k : Int)) = false := by simp
  have HS := hx s
  have HLM := hx hl
  have HC := hx hC
  have HKM := hx hkm
  have hmi : (m : Int) ≤ 255 := by omega
  have hki : (k : Int) ≤ 255 := by omega
  have hk1 : (1 : Int) ≤ (k : Int) := by omega
  have hkmi : (k : Int) + (m : Int) ≤ 255 := by omega
  have HH := hx (And.intro h1 hn)
  clear s hC hE hl hkl hkm hn h1
  go_enter Try.func13, Try.ntmps13
  go_wp2_with fail
  refine HL.out.mono ?_
  rintro e w1 ⟨p, rfl, rfl⟩
  clear HL
  go_wp2_with fail
  go_loopw [8, 31] (fun ov iv wr => ∃ (i : Nat) (u : Value), i ≤ m ∧ iv = .int .i64 i ∧ u = ov ∧ Il w.heap.size wr u (idx k i) ∧ Kept [] w wr) (fun _ iv _ => m - (intOf iv).toNat)
  case atStart => exact ⟨0, _, by omega, rfl, rfl, Il.nil _ _, Kept.refl _ _⟩
  case round =>
    obtain ⟨i, u, hi, rfl, rfl, ho, hk⟩ := hrel
    have HO := hx ho
    have HK := hx hk
    have d0 := kept_cell hk c0
    have d1 := kept_cell hk c1
    clear ho hk
    by_cases hlt : i < m
    · have hj : (i : Int) < (m : Int) := by omega
      have HE := hx (idx_step k i)
      have HL := hx (idx_len k i)
      obtain ⟨x, hxe⟩ : ∃ x, k + i = x := ⟨_, rfl⟩
      have hxi : (k : Int) + (i : Int) = (x : Int) := by omega
      rw [hxe] at HE
      have HXE := hx hxe
      clear hxe
      go_wp2_with (at_builtin; refine wpList_app rfl (.tmp 34) (.tmp 41) 43 rfl w.heap.size 3 (.int .i64 0) 1 8 infoInt Try.underlying43 rfl (by omega) u (idx k i).length (nts (idx k i)) rfl (World.ownsRow.alloc HO.out.own _) (some ⟨_, 0, none⟩) 1 1 [.int .i64 (x : Int)] rfl rfl (by simp) (by omega) (blk_news (Blk.new _ [.int .i64 (x : Int)] 3)) (one_int _) (by unfold maxLen; rw [HL.out]; omega) (by rw [HL.out]; omega) (HK.out.alloc _).size ?_; intro u2 w8 ho8 hg8; have HK8 := hx ((HK.out.alloc _).grown hg8 (fun q hq => .inr (HO.out.own.lt q hq).1)); have HO8 := hx (Il.push ho8); clear ho8 hg8 HO HK)
      go_wp2
      go_roundw
      case rel => exact ⟨i + 1, u2, by omega, by go_num, rfl, by rw [HE.out]; exact HO8.out, HK8.out⟩
      case measure => simp [intOf] <;> omega
    · obtain rfl : i = m := by omega
      obtain ⟨ax, cx, hv, _, hin⟩ := HO.out.form
      rw [idx_len] at hv
      subst hv
      have S1 := hx (HS.out.kept HK.out)
      have C1 := hx (HC.out.kept HK.out)
      have HP := hx (pick_any gr (k + i) k ((k + i) * k) cx R [] ax (idx k i) wr S1.out.r S1.out.mt HKM.out (by omega) HH.out.1 (Nat.le_refl _) (fun x hx => idx_lt hx) (by rw [idx_len]; omega) hin)
      rw [idx_len] at HP
      have d3 := S1.out.c.cell (i := 3) rfl
      have d4 := S1.out.c.cell (i := 4) rfl
      have d5 := S1.out.c.cell (i := 5) rfl
      unfold mv at HP
      generalize hN : k + i = N at *
      clear hin d0 d1
      go_wp2_with fail
      refine HP.out.mono ?_
      rintro e w2 ⟨gp, rfl, hgp, hbp, hk2⟩
      have S2 := hx ((S1.out.kept hk2).kept ((Kept.refl [] w2).alloc (.cells #[.int .i64 (i : Int), .int .i64 (k : Int), .slice (some ⟨gp, 0, none⟩) (i * k) (i * k)] 41)))
      have C2 := hx ((C1.out.kept hk2).kept ((Kept.refl [] w2).alloc (.cells #[.int .i64 (i : Int), .int .i64 (k : Int), .slice (some ⟨gp, 0, none⟩) (i * k) (i * k)] 41)))
      have K2 := hx ((HK.out.trans0 hk2).alloc (.cells #[.int .i64 (i : Int), .int .i64 (k : Int), .slice (some ⟨gp, 0, none⟩) (i * k) (i * k)] 41))
      have BP := hx (hbp.alloc (.cells #[.int .i64 (i : Int), .int .i64 (k : Int), .slice (some ⟨gp, 0, none⟩) (i * k) (i * k)] 41))
      have BX := hx (Blk.new w2 [.int .i64 (i : Int), .int .i64 (k : Int), .slice (some ⟨gp, 0, none⟩) (i * k) (i * k)] 41)
      have HPM := hx (show Mt i k (pickM R (idx k i)) by have h := pickM_mt S1.out.mt (l := idx k i) (fun x hx => by have := idx_lt hx; omega); rw [idx_len] at h; exact h)
      clear hgp hbp hk2 d3 d4 d5 S1 C1 HP HK HO
      go_upto_region 13 with fail
      generalize w2.heap.size = gx at *
      generalize w2.alloc (.cells #[.int .i64 (i : Int), .int .i64 (k : Int), .slice (some ⟨gp, 0, none⟩) (i * k) (i * k)] 41) = w3 at *
      have e2 := S2.out.c.cell (i := 2) rfl
      have x0 := BX.out.cell (i := 0) rfl
      have x1 := BX.out.cell (i := 1) rfl
      have x2 := BX.out.cell (i := 2) rfl
      have hkd : Kept [] w3 w3.drew := (Kept.refl [] w3).drew
      have f2 := kept_cell hkd e2
      have y0 := kept_cell hkd x0
      have y1 := kept_cell hkd x1
      have y2 := kept_cell hkd x2
      have HAP := hx (fun w9 (hk : Kept [] w3 w9) => apply_any2 t gp i k (i * k) n c2 (pickM R (idx k i)) ls [] a2 w9 (hk.blk S2.out.tb (by simp)) (hk.blk BP.out (by simp)) HPM.out (by omega) (by omega) HH.out.1 (Nat.le_refl _) HLM.out (by have := HH.out.2; omega) (C2.out.kept hk))
      unfold mv at HAP
      go_region_with (go_at_call 32; refine (HAP.out _ (by assumption)).mono ?_; rintro e w9 ⟨ar, rfl, ⟨hcs9, hcp9⟩, hk9⟩; have P9 := hx hcp9; have K9 := hx (K2.out.trans0 (Kept.trans0 (by assumption) hk9)); have C9 := hx hcs9; clear hcs9 hcp9 hk9)
      all_goals
        go_wp2_with fail
        go_ret2
        exact ⟨_, rfl, ⟨C9.out, P9.out⟩, K9.out⟩
theorem enc_any (t g gr k m n c2 : Nat) (R ls : List (List Nat)) (a2 : Option Addr) (w : World) (s : Cod w t g gr k m R) (hl : Mt k n ls) (h1 : 1 ≤ k) (hkm : k + m ≤ 255) (hC : Cs w a2 ls) (hE : EqL ls) (hn : n ≤ 1200) :
    Calls Try.prog 13 #[.pointer (some ⟨g, 0, none⟩), .slice a2 ls.length c2] w fun e w' => ∃ a, e = .returned (.tuple #[.slice a m m, .int .i64 0]) ∧ Cs w' a (mulM n (pickM R (idx k m)) ls) ∧ Kept [] w w' :=
  (enc_any2 t g gr k m n c2 R ls a2 w s hl h1 hkm hC hE hn).mono fun _ _ ⟨a, h1, h2, h3⟩ => ⟨a, h1, h2.1, h3⟩
end Go.Proofs.Ytjgnngnknhkpmaa
