/- RsSpoilt. -/
import Derived.Test.YtjgnngnknhkpmaaLost
namespace Go.Proofs.Ytjgnngnknhkpmaa
open Go Go.RowKit
theorem gmul_one : ∀ a, a < 256 → gmul a 1 = a := by decide +kernel
theorem sd_push {L : List Sd} {s : Sd} {j : Nat} (h : j < L.length) : sd (L ++ [s]) j = sd L j := by rw [sd, sd, List.getD_eq_getElem?_getD, List.getD_eq_getElem?_getD, List.getElem?_append_left h]
theorem bn_blkR {w : World} {g : Nat} {l : List Nat} {rest : List Value} {T : TypeId} (h : Blk w g (l.map bn ++ rest) T) : Bn w (some ⟨g, 0, none⟩) l := fun i hi => by
  refine ⟨g, 0, rfl, ?_⟩
  rw [Nat.zero_add, h.cell?_at, List.getElem?_append_left (by rw [List.length_map]; exact hi), List.getElem?_map, getD_some 0 hi]
  rfl
theorem sd_last (L : List Sd) (s : Sd) : sd (L ++ [s]) L.length = s := by rw [sd, List.getD_eq_getElem?_getD, List.getElem?_append_right (Nat.le_refl _), Nat.sub_self]; rfl
set_option maxRecDepth 100000 in
set_option maxHeartbeats 8000000 in
theorem law_spoilt (ki mi tn at_ : Int) (by_ : Nat) (hby : by_ < 256) (c2 c3 : Nat) (a2 a3 : Option Addr) (ls : List (List Nat)) (ks : List Int) (w : World) (hC : Cs w a2 ls) (hO : ∀ x ∈ ls, Oct x) (hI : Ix w a3 ks) (hl : ls.length ≤ maxLen) (hlc : ls.length ≤ c2) (hk : ks.length ≤ maxLen) :
    Calls Try.prog 7 #[.agg #[.int .i64 ki, .int .i64 mi, .slice a2 ls.length c2, .slice a3 ks.length c3, .int .i64 tn], .int .i64 at_, .int .u8 (by_ : Int)] w fun e w' => e = .returned (.bool true) ∧ Kept [] w w' := by
  have HC := hx hC
  have HO := hx hO
  have HI := hx hI
  have hli : (ls.length : Int) ≤ maxLen := by omega
  have hki : (ks.length : Int) ≤ maxLen := by omega
  unfold maxLen at hli hki
  have BX0 := hx (Blk.new w [.int .i64 ki, .int .i64 mi, .slice a2 ls.length c2, .slice a3 ks.length c3, .int .i64 tn] 57)
  have KX0 := hx ((Kept.refl [] w).alloc (.cells #[.int .i64 ki, .int .i64 mi, .slice a2 ls.length c2, .slice a3 ks.length c3, .int .i64 tn] 57))
  have HLC := hx hlc
  clear hC hO hI hl hk hlc
  generalize hlen : ls.length = len at *
  have HLEN := hx hlen
  generalize hkn : ks.length = kn at *
  have HKN := hx hkn
  clear hlen hkn
  go_enter Try.func7, Try.ntmps7
  go_upto_region 1 with fail
  generalize w.alloc (.cells #[.int .i64 ki, .int .i64 mi, .slice a2 len c2, .slice a3 kn c3, .int .i64 tn] 57) = W0 at *
  generalize w.heap.size = bx at *
  go_wp2_with fail
  refine (awake_any W0).mono ?_
  rintro e w1 ⟨rfl, hk1⟩
  have K1 := hx (KX0.out.trans0 hk1)
  have BX := hx (hk1.blk BX0.out (by simp))
  clear hk1 KX0 BX0
  have x0 := BX.out.cell (i := 0) rfl
  have x1 := BX.out.cell (i := 1) rfl
  have x2 := BX.out.cell (i := 2) rfl
  have x3 := BX.out.cell (i := 3) rfl
  have HFW := hx (show Calls Try.prog 10 #[.slice a2 len c2] w1 (FewR ls w1) by rw [← HLEN.out]; exact few_any a2 c2 ls w1 (HC.out.kept K1.out))
  by_cases hgo : (len : Int) = ki ∧ 1 ≤ mi ∧ by_ ≠ 0
  · obtain ⟨rfl, hm1, hb0⟩ := hgo
    have hne : ((len : Int) != (len : Int)) = false := by simp
    have hmi : ¬ mi < 1 := by omega
    have HB0 := hx hb0
    have hbb : ((by_ : Int) == 0) = false := beq_eq_false_iff_ne.2 (by omega)
    go_wp2_with fail
    refine (small_any (len : Int) mi w1).mono ?_
    rintro e w2 ⟨hs, rfl⟩
    rcases hs with ⟨hs, rfl⟩ | ⟨_, rfl⟩
    · obtain ⟨m, rfl⟩ := Int.eq_ofNat_of_zero_le (show 0 ≤ mi by have := hs.2.1; omega)
      have HSM := hx (show 1 ≤ len ∧ len ≤ 20 ∧ m ≤ 20 by obtain ⟨h1, h2, h3, h4⟩ := hs; omega)
      have HM1 := hx (show 1 ≤ m by omega)
      clear hs
      go_wp2_with fail
      refine HFW.out.mono ?_
      rintro e w2 ⟨hf, rfl⟩
      rcases hf with ⟨_, rfl⟩ | rfl
      · clear HFW
        obtain ⟨n, hn0⟩ : ∃ n, (rw ls 0).length = n := ⟨_, rfl⟩
        have HN0 := hx hn0
        obtain ⟨b, o, a0, c0, ha2, hc0, _⟩ := (HC.out.kept K1.out) 0 (by rw [HLEN.out]; exact HSM.out.1)
        subst ha2
        rw [Nat.add_zero, hn0] at hc0
        have HCI := hx (fun i (hi : i < len) => show ∃ ai ci, w1.cell? ⟨b, o + i, none⟩ = some (.slice ai (rw ls i).length ci) by
          obtain ⟨b2, o2, ai, ci, e1, e2, _⟩ := (HC.out.kept K1.out) i (by rw [HLEN.out]; exact hi)
          simp only [Option.some.injEq, Addr.mk.injEq, and_true] at e1
          obtain ⟨rfl, rfl⟩ := e1
          exact ⟨ai, ci, e2⟩)
        have hl1 : (1 : Int) ≤ (len : Int) := by have := HSM.out.1; omega
        clear hn0
        go_wp2_with fail
        go_loopw [7] (fun iv wr => ∃ i : Nat, i ≤ len ∧ iv = .int .i64 i ∧ (∀ j, j < i → ((rw ls j).length = n ∧ n ≤ 1200) ∧ 1 ≤ n) ∧ Kept [] w1 wr) (fun iv _ => len - (intOf iv).toNat)
        case atStart => exact ⟨0, by omega, rfl, fun j hj => absurd hj (by omega), Kept.refl _ _⟩
        case round =>
          obtain ⟨i, hi, rfl, hall, hk⟩ := hrel
          have HA := hx hall
          have HK := hx hk
          have y0 := kept_cell hk x0
          have y1 := kept_cell hk x1
          have y2 := kept_cell hk x2
          have y3 := kept_cell hk x3
          clear hall
          by_cases hlt : i < len
          · have hii : (i : Int) < (len : Int) := by omega
            obtain ⟨ai, ci, e1⟩ := HCI.out i hlt
            have f1 := kept_cell hk e1
            have f0 := kept_cell hk hc0
            clear e1 hk
            by_cases hq : (rw ls i).length = n
            · have HQ := hx hq
              rw [hq] at f1
              clear hq
              have hnn : ((n : Int) != (n : Int)) = false := by simp
              by_cases h12 : n ≤ 1200
              · have h12i : ¬ 1200 < (n : Int) := by omega
                by_cases hz : n = 0
                · subst hz
                  go_upto_region 8 with fail
                  go_quiet (fail)
                  have KE := hx (K1.out.trans0 (HK.out.drewN nq))
                  go_wp2_with fail
                  try go_ret
                  exact ⟨rfl, KE.out⟩
                have hzb : ((n : Int) == 0) = false := beq_eq_false_iff_ne.2 (by omega)
                have HZ := hx hz
                clear hz
                go_upto_region 8 with fail
                go_quiet (fail)
                go_wp2_with fail
                go_roundw
                case rel => exact ⟨i + 1, by omega, by go_num, fun j hj => by
                  by_cases hj2 : j < i
                  · exact HA.out j hj2
                  · have e : j = i := by omega
                    rw [e]
                    exact ⟨⟨HQ.out, h12⟩, by have := HZ.out; omega⟩, HK.out.drewN _⟩
                case measure => simp [intOf] <;> omega
              · have h12i : 1200 < (n : Int) := by omega
                go_upto_region 8 with fail
                go_quiet (fail)
                have KE := hx (K1.out.trans0 (HK.out.drewN nq))
                go_wp2_with fail
                try go_ret
                exact ⟨rfl, KE.out⟩
            · generalize (rw ls i).length = q at *
              have hnn : ((q : Int) != (n : Int)) = true := bne_iff_ne.2 (by omega)
              go_upto_region 8 with fail
              go_quiet (fail)
              have KE := hx (K1.out.trans0 (HK.out.drewN nq))
              go_wp2_with fail
              try go_ret
              exact ⟨rfl, KE.out⟩
          · obtain rfl : i = len := by omega
            obtain ⟨hE, hM, h12⟩ := eql_of HN0.out (fun j hj => (HA.out j (by rw [← HLEN.out]; exact hj)).1) (by rw [HLEN.out]; exact HSM.out.1) HO.out
            rw [HLEN.out] at hM
            have HE := hx hE
            have HM := hx hM
            have HN := hx h12
            have HN1 := hx (HA.out 0 (by have := HSM.out.1; omega)).2
            have BY := hx (hk.blk BX.out (by simp))
            have K2 := hx (K1.out.trans0 hk)
            clear hE hM h12 hk x0 x1 x2 x3 BX hc0 HCI HA HK
            have HKM := hx (show i + m ≤ 255 by have := HSM.out; omega)
            have HG := hx (fun (w3 w4 : World) (h : (w3.cell? ⟨bx, 0, none⟩ = some (.int .i64 (i : Int)) ∧ w3.cell? ⟨bx, 1, none⟩ = some (.int .i64 (m : Int))) ∧ Hx (Kept [] wr w3)) (hk : Kept [] w3 w4) => (show (w4.cell? ⟨bx, 0, none⟩ = some (.int .i64 (i : Int)) ∧ w4.cell? ⟨bx, 1, none⟩ = some (.int .i64 (m : Int))) ∧ Hx (Kept [] wr w4) from ⟨⟨kept_cell hk h.1.1, kept_cell hk h.1.2⟩, hx (h.2.out.trans0 hk)⟩))
            have HS0 := hx (show (wr.drew.cell? ⟨bx, 0, none⟩ = some (.int .i64 (i : Int)) ∧ wr.drew.cell? ⟨bx, 1, none⟩ = some (.int .i64 (m : Int))) ∧ Hx (Kept [] wr wr.drew) from ⟨⟨kept_cell (Kept.refl [] wr).drew y0, kept_cell (Kept.refl [] wr).drew y1⟩, hx (Kept.refl [] wr).drew⟩)
            go_upto_region 10 with fail
            go_region_held3 (fun w3 => (w3.cell? ⟨bx, 0, none⟩ = some (.int .i64 (i : Int)) ∧ w3.cell? ⟨bx, 1, none⟩ = some (.int .i64 (m : Int))) ∧ Hx (Kept [] wr w3))
              (first | exact hSS | exact HS0.out | assumption)
              (first | (go_at_call 12; refine (gfnew_any _).mono ?_; rintro e w4 ⟨rfl, hT, hk4⟩; have hSS := HG.out _ _ (by assumption) hk4; have HT := hx hT)
                     | (go_at_call 11; refine (rsnew_any _ i m _ HT.out HSM.out.1 HKM.out).mono ?_; rintro e w5 hc5; obtain ⟨g, gr, R, rfl, hcod, hk5⟩ := cod_new HT.out HKM.out hc5; have hSS := HG.out _ _ (by assumption) hk5; have HCD := hx hcod))
            have KW := hx (show Kept [] w _ from K2.out.trans0 hSS.2.out)
            have BZ := hx (hSS.2.out.blk BY.out (by simp))
            have HEN := hx (enc_any2 _ g gr i m n c2 R ls (some ⟨b, o, none⟩) _ HCD.out HM.out HSM.out.1 HKM.out (HC.out.kept KW.out) HE.out HN.out)
            have HRW := hx (HCD.out.rows HKM.out)
            rw [mulM_enc HRW.out HKM.out HM.out, HLEN.out] at HEN
            have z1 := BZ.out.cell (i := 1) rfl
            have z2 := BZ.out.cell (i := 2) rfl
            clear hSS HG HS0 BY y0 y1 y2 y3 K2 HT
            go_wp2_with fail
            refine HEN.out.mono ?_
            rintro e w6 ⟨ap, rfl, ⟨hcp, hcap⟩, hk6⟩
            have hmm : ((m : Int) != (m : Int)) = false := by simp
            have K6 := hx (KW.out.trans0 hk6)
            have CD := hx (HCD.out.kept hk6)
            have B6 := hx (hk6.blk BZ.out (by simp))
            obtain ⟨O, gp, hap, hc0p⟩ := hcap 0 HM1.out
            subst hap
            obtain ⟨b2, o2, ai0, ci0, e1, e2, e3⟩ := hcp 0 (by rw [encR_len]; exact HM1.out)
            simp only [Option.some.injEq, Addr.mk.injEq, and_true] at e1
            obtain ⟨rfl, rfl⟩ := e1
            rw [Nat.zero_add, hc0p] at e2
            have HROW := hx (show rw (encR i n ls m) 0 = rw (mulM n R ls) i by
              have h := enc_row HRW.out HKM.out HM.out (x := i) (by have := HM1.out; omega)
              rw [← h, rw.eq_def (ls ++ encR i n ls m), List.getD_eq_getElem?_getD, List.getElem?_append_right (by rw [HLEN.out]; exact Nat.le_refl _), HLEN.out, Nat.sub_self, rw.eq_def, List.getD_eq_getElem?_getD])
            generalize hrow : rw (encR i n ls m) 0 = row at *
            simp only [Option.some.injEq, Value.slice.injEq] at e2
            obtain ⟨ha0, hq1, hq2⟩ := e2
            clear hq1 hq2
            subst ha0
            have HBP := hx e3
            have HCP := hx hc0p
            have HROO := hx ((mulM_mt HRW.out.mt.rows HM.out).rowOct (show i < i + m by have := HM1.out; omega))
            rw [← HROW.out] at HROO
            have v0 := B6.out.cell (i := 0) rfl
            have v1 := B6.out.cell (i := 1) rfl
            have hi20 : i ≤ 20 := HSM.out.2.1
            have HC6 := hx (HC.out.kept K6.out)
            clear hcp hcap hk6 z1 z2 BZ KW HEN HCD e3 hc0p hrow
            go_wp2_with fail
            go_loopw [12, 13] (fun ov iv wr => ∃ (q : Nat) (u : Value) (L : List Sd), q ≤ i ∧ iv = .int .i64 q ∧ u = ov ∧ wr.ownsRow w6.heap.size 47 2 u L.length (shc L) ∧ L.length = q ∧ (∀ j, j < q → (sd L j).x = (j : Int) ∧ (sd L j).l = rw ls j) ∧ (∀ s ∈ L, Bn w6 s.a s.l) ∧ Kept [] w6 wr) (fun _ iv _ => i - (intOf iv).toNat)
            case atStart => exact ⟨0, _, [], by omega, rfl, rfl, World.ownsRow_nil _ _ _ _, rfl, (by intro j hj; omega), (by intro s hs; simp at hs), Kept.refl _ _⟩
            case round =>
              obtain ⟨q, u, L, hq, rfl, rfl, how, hlq, hat, hbn, hk⟩ := hrel
              have HOW := hx how
              have HAT := hx hat
              have HBNS := hx hbn
              have HLQ := hx hlq
              have HK := hx hk
              have BR := hx (hk.blk B6.out (by simp))
              have x0 := BR.out.cell (i := 0) rfl
              have x2 := BR.out.cell (i := 2) rfl
              clear how hat hbn hlq
              by_cases hlt : q < i
              · have hqi : (q : Int) < (i : Int) := by omega
                obtain ⟨b3, o3, ai, ci, e1, e2, e3⟩ := HC6.out q (by rw [HLEN.out]; exact hlt)
                simp only [Option.some.injEq, Addr.mk.injEq, and_true] at e1
                obtain ⟨rfl, rfl⟩ := e1
                have g1 := kept_cell hk e2
                have HB3 := hx e3
                generalize hrl : rw ls q = rl at *
                have HRL := hx hrl
                clear e2 e3 hk hrl
                have hL20 : L.length ≤ 20 := by have := HLQ.out; omega
                have H1C := hx (show ∀ v ∈ [Value.int .i64 (q : Int), Value.slice ai rl.length ci], v.oneCell' = true by
                  intro v hv
                  simp only [List.mem_cons, List.not_mem_nil, or_false] at hv
                  rcases hv with rfl | rfl <;> rfl)
                have HBA := hx (fun o => show w6.heap.size ≤ (wr.alloc o).heap.size from (HK.out.alloc o).size)
                have HKA := hx (fun o w9 (hg9 : (wr.alloc o).grownBy w9 u.ownBlock) => (HK.out.alloc o).grown hg9 (fun q hq => .inr (HOW.out.lt q hq).1))
                go_wp2_with (at_builtin; refine wpList_app rfl (.tmp 123) (.tmp 131) 45 rfl w6.heap.size 47 (.agg #[.int .i64 0, .slice none 0 0]) 2 32 infoShd Try.underlying45 rfl (by omega) u L.length (shc L) rfl (World.ownsRow.alloc HOW.out _) (some ⟨_, 0, none⟩) 1 1 [.int .i64 (q : Int), .slice ai rl.length ci] rfl rfl (by simp) (by omega) (blk_news (Blk.new _ [.int .i64 (q : Int), .slice ai rl.length ci] 47)) H1C.out (by unfold maxLen; omega) (by omega) (HBA.out _) ?_; intro u2 w9 ho9 hg9; have HK9 := hx (HKA.out _ _ hg9); have HO9 := hx ho9; clear ho9 hg9)
                go_wp2
                go_roundw
                case rel =>
                  refine ⟨q + 1, u2, L ++ [⟨(q : Int), ai, ci, rl⟩], by omega, by go_num, rfl, own_pushS (s := ⟨(q : Int), ai, ci, rl⟩) HO9.out, by rw [List.length_append, HLQ.out]; rfl, ?_, ?_, HK9.out⟩
                  · intro j hj
                    by_cases hj2 : j < q
                    · rw [sd_push (by rw [HLQ.out]; exact hj2)]
                      exact HAT.out j hj2
                    · have e : j = L.length := by have := HLQ.out; omega
                      rw [e, sd_last]
                      exact ⟨by rw [HLQ.out], by rw [HLQ.out]; exact HRL.out.symm⟩
                  · intro s hs
                    rw [List.mem_append, List.mem_singleton] at hs
                    rcases hs with hs | rfl
                    · exact HBNS.out s hs
                    · exact HB3.out
                case measure => simp [intOf] <;> omega
              · obtain rfl : q = i := by omega
                have HROL := hx (show row.length = n by rw [HROW.out]; exact (mulM_mt HRW.out.mt.rows HM.out).len (by have := HM1.out; omega))
                have g0 := kept_cell hk HCP.out
                have KZ := hx ((HK.out).alloc (.cells #[] 5))
                have kz := (Kept.refl [] wr).alloc (.cells #[] 5)
                have g0z := kept_cell kz g0
                have HO0 := hx (World.ownsRow_lit (base := wr.heap.size) (e := 5) (size := 1) wr #[] 0 (Nat.le_refl _) (Nat.zero_le _) rfl)
                have HNW := hx (show ∀ ad, some (⟨gp, 0, none⟩ : Addr) = some ad → ∀ j u, (row.map bn)[j]? = some u → (wr.alloc (.cells #[] 5)).cell? (ad.add j) = some u by
                  intro ad ha j u hu
                  simp only [Option.some.injEq] at ha
                  subst ha
                  rw [List.getElem?_map] at hu
                  have hj : j < row.length := by
                    rcases Nat.lt_or_ge j row.length with h | h
                    · exact h
                    · rw [List.getElem?_eq_none h] at hu
                      cases hu
                  rw [getD_some 0 hj] at hu
                  obtain ⟨b4, o4, e1, e2⟩ := HBP.out j hj
                  simp only [Option.some.injEq, Addr.mk.injEq, and_true] at e1
                  obtain ⟨rfl, rfl⟩ := e1
                  rw [Addr.add_mid]
                  have h5 := kept_cell kz (kept_cell hk e2)
                  rw [h5]
                  exact hu)
                have HNO := hx (show ∀ v ∈ row.map bn, v.oneCell' = true by
                  intro v hv
                  simp only [List.mem_map] at hv
                  obtain ⟨y, _, rfl⟩ := hv
                  rfl)
                have HGK := hx (fun w8 (hg8 : (wr.alloc (.cells #[] 5)).grownBy w8 (Value.slice (some ⟨wr.heap.size, 0, none⟩) 0 0).ownBlock) => ((Kept.refl [] wr).alloc (.cells #[] 5)).grown hg8 (fun q hq => by simp only [Value.ownBlock, Option.some.injEq] at hq; right; omega))
                have hn12 : n ≤ 1200 := HN.out
                have HMP := hx (show (row.map bn).length = n by rw [List.length_map, HROL.out])
                have hn1 : 1 ≤ n := HN1.out
                clear hk kz g0
                go_upto_region 22 with (at_builtin; refine wpList_app rfl (.tmp 133) (.tmp 136) 39 rfl wr.heap.size 5 (.int .u8 0) 1 1 infoU8 Try.underlying39 rfl (by omega) (.slice (some ⟨wr.heap.size, 0, none⟩) 0 0) 0 [] rfl HO0.out (some ⟨gp, 0, none⟩) n n (row.map bn) rfl (by rw [HMP.out]; omega) (fun h => by cases h) (Nat.le_refl _) HNW.out HNO.out (by unfold maxLen; omega) (by omega) (by simp) ?_; intro u8 w8 ho8 hg8; rw [Nat.zero_add, List.nil_append] at ho8; obtain ⟨go, cpo, rest, rfl, hgo, hcpo, hcm, hbo, hlo, _⟩ := own_get ho8 hn1; have HK8 := hx (HGK.out _ hg8); have HBO := hx hbo; have HGO := hx (And.intro hgo (And.intro hcpo hcm)); clear ho8 hg8 hgo hcpo hcm hbo hlo)
                have HK68 := hx (HK.out.trans0 HK8.out)
                have B8 := hx (HK68.out.blk B6.out (by simp))
                obtain ⟨b5, o5, ai5, ci5, e1, e2, _⟩ := (HC6.out.kept HK68.out) 0 (by rw [HLEN.out]; exact HSM.out.1)
                simp only [Option.some.injEq, Addr.mk.injEq, and_true] at e1
                obtain ⟨rfl, rfl⟩ := e1
                rw [Nat.add_zero, HN0.out] at e2
                have z0 := B8.out.cell (i := 0) rfl
                have z2 := B8.out.cell (i := 2) rfl
                have hnn : ((n : Int) != (n : Int)) = false := by simp
                have hni : (1 : Int) ≤ (n : Int) := by omega
                have hni2 : (n : Int) ≤ 1200 := by omega
                clear x0 x2 g0z HO0 HNW HNO KZ HGK
                go_upto_region 25 with fail
                obtain ⟨hr1, hr2⟩ := mod_case at_ n hn1
                generalize at_.tmod (n : Int) = r at *
                clear e2 z2 hnn
                have hcase : ∃ y : Nat, y < n ∧ (r = (y : Int) - (n : Int) ∨ r = (y : Int)) := by
                  by_cases h : r < 0
                  · obtain ⟨y, hy⟩ := Int.eq_ofNat_of_zero_le (show 0 ≤ r + (n : Int) by omega)
                    exact ⟨y, by omega, .inl (by omega)⟩
                  · obtain ⟨y, hy⟩ := Int.eq_ofNat_of_zero_le (show 0 ≤ r by omega)
                    exact ⟨y, by omega, .inr hy⟩
                obtain ⟨y, hyN, hry⟩ := hcase
                clear hr1 hr2
                have hyi : (y : Int) < (n : Int) := by omega
                have hx8 : row.getD y 0 < 256 := HROO.out.at y
                have hxr := u8_xor_nat (row.getD y 0) by_ hx8 hby
                have hz8 : row.getD y 0 ^^^ by_ < 256 := Nat.xor_lt_two_pow (n := 8) hx8 hby
                have hwz : IntKind.u8.wrap ((row.getD y 0 ^^^ by_ : Nat) : Int) = ((row.getD y 0 ^^^ by_ : Nat) : Int) := by rw [IntKind.wrap_u8]; omega
                have es : w8.cell? ⟨go, y, none⟩ = some (.int .u8 ((row.getD y 0 : Nat) : Int)) := HBO.out.cell (by
                  rw [List.getElem?_append_left (by rw [HMP.out]; exact hyN), List.getElem?_map, getD_some 0 (by rw [HROL.out]; exact hyN)]
                  rfl)
                have fs := HBO.out.free y
                have HSPO := hx (show Blk (w8.setCell ⟨go, y, none⟩ (.int .u8 ((row.getD y 0 ^^^ by_ : Nat) : Int))) go ((row.set y (row.getD y 0 ^^^ by_)).map bn ++ rest) 5 by
                  have h := HBO.out.set y (bn (row.getD y 0 ^^^ by_))
                  rw [List.set_append_left _ _ (by rw [HMP.out]; exact hyN), ← List.map_set] at h
                  exact h)
                have HKS := hx (show Kept [] wr (w8.setCell ⟨go, y, none⟩ (.int .u8 ((row.getD y 0 ^^^ by_ : Nat) : Int))) from HK8.out.setCell (.inr HGO.out.1) _)
                have HSL := hx (show (row.set y (row.getD y 0 ^^^ by_)).length = n by rw [List.length_set, HROL.out])
                have HSO := hx (show Oct (row.set y (row.getD y 0 ^^^ by_)) from fun z hz => by
                  rcases List.mem_or_eq_of_mem_set hz with h | rfl
                  · exact HROO.out z h
                  · exact hz8)
                have HNE := hx (show row.set y (row.getD y 0 ^^^ by_) ≠ rw (mulM n R ls) q from fun h => by
                  rw [← HROW.out] at h
                  have h2 := congrArg (fun l : List Nat => l.getD y 0) h
                  simp only [List.getD_eq_getElem?_getD, List.getElem?_set_self (show y < row.length by rw [HROL.out]; exact hyN)] at h2
                  have h3 : row.getD y 0 ^^^ by_ = row.getD y 0 := by rw [List.getD_eq_getElem?_getD]; exact h2
                  have h4 := congrArg (fun x => row.getD y 0 ^^^ x) h3
                  simp only [← Nat.xor_assoc, Nat.xor_self, Nat.zero_xor] at h4
                  exact HB0.out h4)
                generalize row.set y (row.getD y 0 ^^^ by_) = row2 at *
                generalize row.getD y 0 ^^^ by_ = z at *
                generalize row.getD y 0 = x at *
                rcases hry with rfl | rfl
                all_goals
                  go_upto_region 28 with fail
                  clear es fs hxr hwz
                  generalize w8.setCell ⟨go, y, none⟩ (.int .u8 (z : Int)) = wS at *
                  have HKW := hx (HK.out.trans0 HKS.out)
                  have BS := hx (HKW.out.blk B6.out (by simp))
                  have s0 := BS.out.cell (i := 0) rfl
                  have HOS := hx (own_kept0 HOW.out HKS.out)
                  have hL20 : L.length ≤ 20 := by have := HLQ.out; omega
                  have H1C := hx (show ∀ v ∈ [Value.int .i64 (q : Int), Value.slice (some ⟨go, 0, none⟩) n cpo], v.oneCell' = true by
                    intro v hv
                    simp only [List.mem_cons, List.not_mem_nil, or_false] at hv
                    rcases hv with rfl | rfl <;> rfl)
                  have HBA := hx (fun o => show w6.heap.size ≤ (wS.alloc o).heap.size from (HKW.out.alloc o).size)
                  have HKA := hx (fun o w9 (hg9 : (wS.alloc o).grownBy w9 u.ownBlock) => (HKW.out.alloc o).grown hg9 (fun q hq => .inr (HOS.out.lt q hq).1))
                  have HLE := hx (show (L ++ [(⟨(q : Int), some ⟨go, 0, none⟩, cpo, row2⟩ : Sd)]).length = q + 1 by rw [List.length_append, HLQ.out]; rfl)
                  have HBG := hx (fun o w9 (hg9 : (wS.alloc o).grownBy w9 u.ownBlock) => grown_blk hg9 (HSPO.out.alloc o) (own_ne (World.ownsRow.alloc HOS.out o) (HSPO.out.alloc o) (by decide)))
                  go_wp2_with (at_builtin; refine wpList_app rfl (.tmp 167) (.tmp 172) 45 rfl w6.heap.size 47 (.agg #[.int .i64 0, .slice none 0 0]) 2 32 infoShd Try.underlying45 rfl (by omega) u L.length (shc L) rfl (World.ownsRow.alloc HOS.out _) (some ⟨_, 0, none⟩) 1 1 [.int .i64 (q : Int), .slice (some ⟨go, 0, none⟩) n cpo] rfl rfl (by simp) (by omega) (blk_news (Blk.new _ [.int .i64 (q : Int), .slice (some ⟨go, 0, none⟩) n cpo] 47)) H1C.out (by unfold maxLen; omega) (by omega) (HBA.out _) ?_; intro u3 w9 ho9 hg9; rw [← HSL.out] at ho9; have HK9 := hx (HKA.out _ _ hg9); have HB9 := hx (HBG.out _ _ hg9); have HO9 := hx (own_pushS (s := ⟨(q : Int), some ⟨go, 0, none⟩, cpo, row2⟩) ho9); have HBN9 := hx (fun s (hs : s ∈ L ++ [(⟨(q : Int), some ⟨go, 0, none⟩, cpo, row2⟩ : Sd)]) => show Bn w9 s.a s.l from (List.mem_append.1 hs).elim (fun h => (HBNS.out s h).kept HK9.out) (fun h => by rw [List.mem_singleton.1 h]; exact bn_blkR HB9.out)); obtain ⟨a9, c9, hv9, _, hsh⟩ := sh_form HO9.out HBN9.out (Kept.refl [] w9); have HSH := hx hsh; rw [HLE.out] at hv9; subst hv9; clear ho9 hg9 hsh)
                  obtain ⟨hG, hE, hO, hn0, hNF⟩ := fit_not (s := ⟨(q : Int), some ⟨go, 0, none⟩, cpo, row2⟩) HRW.out HKM.out HSM.out.1 HM.out HLQ.out HAT.out rfl HM1.out HSL.out HSO.out HN.out HNE.out
                  have HNF := hx hNF
                  have hfg := fits_good _ g gr q m c9 n R a9 _ w9 (CD.out.kept HK9.out) HSM.out.1 HKM.out HSH.out (by rw [List.length_append, HLQ.out, List.length_singleton]; omega) hO hG (by rw [List.length_append, HLQ.out]; omega) hE hn0
                  rw [HLE.out] at hfg
                  have HFG := hx hfg
                  clear hfg
                  have KW9 := hx (K6.out.trans0 HK9.out)
                  clear hG hE hO hn0 hNF s0
                  refine HFG.out.mono ?_
                  rintro e wA ⟨bb, rfl, hbb, hkA⟩
                  have hb1 : bb = false := by
                    cases bb
                    · rfl
                    · exact absurd (hbb.1 rfl) HNF.out
                  subst hb1
                  have KA := hx (KW9.out.trans0 hkA)
                  have HMU := hx (show Calls Try.prog 25 #[.int .u8 (by_ : Int), .int .u8 1] wA fun e w' => e = .returned (.int .u8 (by_ : Int)) ∧ wA = w' by
                    have h := refmul_any by_ 1 wA hby (by omega)
                    rw [mulR_gmul by_ 1 hby (by omega), gmul_one by_ hby] at h
                    exact h)
                  have hbe : ((by_ : Int) == (by_ : Int)) = true := by simp
                  clear hbb hkA
                  go_wp2_with fail
                  refine HMU.out.mono ?_
                  rintro e wB ⟨rfl, rfl⟩
                  go_wp2_with fail
                  try go_ret
                  exact ⟨rfl, KA.out⟩
      · go_wp2_with fail
        try go_ret
        exact ⟨rfl, K1.out⟩
    · go_wp2_with fail
      try go_ret
      exact ⟨rfl, K1.out⟩
  · by_cases hm1 : mi < 1
    · go_wp2_with fail
      refine (small_any ki mi w1).mono ?_
      rintro e w2 ⟨hs, rfl⟩
      rcases hs with ⟨_, rfl⟩ | ⟨_, rfl⟩
      all_goals
        go_wp2_with fail
        try go_ret
        exact ⟨rfl, K1.out⟩
    · have hor : ((len : Int) != ki) = true ∨ ((len : Int) != ki) = false ∧ by_ = 0 := by
        by_cases h : (len : Int) = ki
        · right
          exact ⟨by rw [h]; simp, by omega⟩
        · left
          exact bne_iff_ne.2 h
      clear hgo
      rcases hor with hne | ⟨hne, rfl⟩
      all_goals
        go_wp2_with fail
        refine (small_any ki mi w1).mono ?_
        rintro e w2 ⟨hs, rfl⟩
        rcases hs with ⟨_, rfl⟩ | ⟨_, rfl⟩
        · go_wp2_with fail
          refine HFW.out.mono ?_
          rintro e w2 ⟨hf, rfl⟩
          rcases hf with ⟨_, rfl⟩ | rfl
          all_goals
            go_wp2_with fail
            try go_ret
            exact ⟨rfl, K1.out⟩
        · go_wp2_with fail
          try go_ret
          exact ⟨rfl, K1.out⟩
end Go.Proofs.Ytjgnngnknhkpmaa
