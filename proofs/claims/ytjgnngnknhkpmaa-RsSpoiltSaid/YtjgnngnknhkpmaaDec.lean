/- Decode. -/
import Derived.Test.YtjgnngnknhkpmaaLeaT
import Derived.Deep.DeepCutAuto
namespace Go.Proofs.Ytjgnngnknhkpmaa
open Go Go.RowKit
theorem decR_mt (k n : Nat) {A : List Sd} (hA : Mt k n (bys A)) : Mt k n (decR k n A k) := by
  have h : ∀ x ∈ decR k n A k, x.length = n ∧ Oct x := fun x hx1 => by
    simp only [decR, tab, List.mem_map, List.mem_range] at hx1
    obtain ⟨q, _, rfl⟩ := hx1
    exact mulRow_ok hA _ k (Nat.le_refl _)
  exact ⟨tab_len _ _, fun x hx1 => (h x hx1).1, fun x hx1 => (h x hx1).2⟩
theorem decR_rw {k n : Nat} {A : List Sd} {i : Nat} (hi : i < k) : rw (decR k n A k) i = mulRow n (bys A) (wts (pls A) i) k := by
  rw [rw.eq_def, List.getD_eq_getElem?_getD, decR, tab_get hi]
  rfl
theorem decoded {k m n : Nat} {R : List (List Nat)} (h : Rows k m R) (hkm : k + m ≤ 255) {L A : List Sd} (hc : Chs (k + m) k n L A) :
    ∃ I, invM k (pickM R (pls A)) = some I ∧ Mt k k I ∧ mulM n I (bys A) = decR k n A k ∧ (∀ x, x < k + m → rw (mulM n R (decR k n A k)) x = mulRow n (bys A) (wts (pls A) x) k) ∧
      ∀ d, Mt k n d → (∀ q, q < k → rw (bys A) q = rw (mulM n R d) ((pls A).getD q 0)) → decR k n A k = d := by
  obtain ⟨I, h1, h2, h3, h4, h5, h6⟩ := dec_rows h hkm (by rw [pls_len, hc.len]) hc.nd hc.lt hc.mt
  have e : mulM n I (bys A) = decR k n A k := mt_ext h3 (decR_mt k n hc.mt) fun i hi => by rw [h4 i hi, decR_rw hi]
  rw [e] at h5 h6
  exact ⟨I, h1, h2, e, h5, h6⟩
theorem lea_255 {N : Nat} {L S : List Sd} (hg : Good N L) (hN : N ≤ 255) (hp : S.Perm L) (hs : Asc S) : lea L 255 = S := by
  rw [lea_filter hp hs (fun s h => (good_bound hg s h).1), List.filter_eq_self]
  intro s h
  have := (good_bound hg s (hp.mem_iff.1 h)).2
  simp
  omega
theorem take_step {S : List Sd} {i : Nat} (hi : i < S.length) : S.take (i + 1) = S.take i ++ [sd S i] := by
  rw [List.take_add_one, sd_some hi, Option.toList_some]
/-- The chosen ones. -/
def cho (k : Nat) (L : List Sd) : List Sd := (lea L 255).take k
set_option maxRecDepth 100000 in
set_option maxHeartbeats 800000 in
theorem dec_bad (t g gr k m c2 q : Nat) (R : List (List Nat)) (a2 : Option Addr) (L : List Sd) (w : World) (s : Cod w t g gr k m R) (h1 : 1 ≤ k) (hkm : k + m ≤ 255) (hS : Sh w a2 L) (hL : L.length ≤ 1000) (hq : ChkP k (k + m) L q) (hq0 : q ≠ 0) :
    Calls Try.prog 20 #[.pointer (some ⟨g, 0, none⟩), .slice a2 L.length c2] w fun e w' => e = .returned (.tuple #[.slice none 0 0, .int .i64 (q : Int)]) ∧ Kept [] w w' := by
  have HCK := hx (show Calls Try.prog 37 #[.pointer (some ⟨g, 0, none⟩), .slice a2 L.length c2] w fun e w' => e = .returned (.int .i64 (q : Int)) ∧ Kept [] w w' from (check_any t g gr k m c2 R a2 L w s h1 hkm hS hL).mono (by
    rintro e w' ⟨p, h1, h2, h3⟩
    rw [h2.one hq] at h1
    exact ⟨h1, h3⟩))
  have hnn : ((q : Int) != 0) = true := bne_iff_ne.2 (by omega)
  clear s hS hq
  go_enter Try.func20, Try.ntmps20
  go_wp2_with fail
  refine HCK.out.mono ?_
  rintro e w1 ⟨rfl, hk1⟩
  have K1 := hx hk1
  clear hk1
  go_wp2_with fail
  go_ret2
  exact ⟨rfl, K1.out⟩
set_option maxRecDepth 100000 in
set_option maxHeartbeats 8000000 in
theorem dec_good (t g gr k m c2 n : Nat) (R : List (List Nat)) (a2 : Option Addr) (L : List Sd) (w : World) (s : Cod w t g gr k m R) (h1 : 1 ≤ k) (hkm : k + m ≤ 255) (hS : Sh w a2 L) (hL : L.length ≤ 1000)
    (hO : ∀ s ∈ L, Oct s.l) (hG : Good (k + m) L) (hkL : k ≤ L.length) (hE : EqL (byn L L.length)) (hn : (rw (byn L L.length) 0).length = n) :
    Calls Try.prog 20 #[.pointer (some ⟨g, 0, none⟩), .slice a2 L.length c2] w fun e w' => ∃ a, e = .returned (.tuple #[.slice a k k, .int .i64 0]) ∧ Cs w' a (decR k n (cho k L) k) ∧ Kept [] w w' := by
  generalize hPP : (fun (e : Ending) (w' : World) => ∃ a, e = .returned (.tuple #[.slice a k k, .int .i64 0]) ∧ Cs w' a (decR k n (cho k L) k) ∧ Kept [] w w') = PP
  have HPP := hx (fun a w' (hc : Cs w' a (decR k n (cho k L) k)) (hk : Kept [] w w') => show PP (.returned (.tuple #[.slice a k k, .int .i64 0])) w' by rw [← hPP]; exact ⟨a, rfl, hc, hk⟩)
  have HCK := hx (show Calls Try.prog 37 #[.pointer (some ⟨g, 0, none⟩), .slice a2 L.length c2] w fun e w' => e = .returned (.int .i64 0) ∧ Kept [] w w' from (check_any t g gr k m c2 R a2 L w s h1 hkm hS hL).mono (by
    rintro e w' ⟨p, h1, h2, h3⟩
    rw [h2.one (.inr (.inr (.inr ⟨hG, hkL, hE, rfl⟩)))] at h1
    exact ⟨h1, h3⟩))
  have hbn : ∀ s ∈ L, Bn w s.a s.l := fun s hs => by
    obtain ⟨i, hi, rfl⟩ := List.getElem_of_mem hs
    obtain ⟨b, off, _, _, _, h⟩ := hS i hi
    rw [sd_get hi] at h
    exact h
  have HCL := hx (fun w1 (hk : Kept [] w w1) => clone_sh a2 c2 L w1 (hS.kept hk) (by omega) hL)
  have HSO := hx (fun g cap w2 hk hb0 hb1 hc => sort_any g cap (k + m) L w w2 hkm hG hL hk hb0 hb1 hc hbn)
  have HCO := hx (fun S (hp : S.Perm L) (hs : Asc S) => (⟨chs_of (k := k) (n := n) hp hs (good_bound hG) hkL (fun s h => by rw [← hn]; exact eql_len hE s h) hO, by unfold cho; rw [lea_255 hG hkm hp hs]⟩ : Chs (k + m) k n L (S.take k) ∧ cho k L = S.take k))
  have HDC := hx (fun A (hc : Chs (k + m) k n L A) => decoded (s.rows hkm) hkm hc)
  have HX0 := hx (fun S (hp : S.Perm L) i (hi : i < S.length) => (good_bound hG (sd S i) (hp.mem_iff.1 (sd_mem hi))).1)
  have hn2 : n ≤ 1200 := by rw [← hn]; exact hE.1
  have HS := hx s
  have c0 := s.c.cell (i := 0) rfl
  have HKM := hx hkm
  have HKL := hx hkL
  have HH := hx (And.intro h1 hn2)
  have hkLi : (k : Int) ≤ (L.length : Int) := by omega
  have hLi : (L.length : Int) ≤ 1000 := by omega
  have hki : (k : Int) ≤ 255 := by omega
  have hk1 : (1 : Int) ≤ (k : Int) := by omega
  have HLN := hx (show ∀ S : List Sd, S.Perm L → S.length = L.length from fun S h => h.length_eq)
  clear hPP s hS hO hG hE hn hkm hbn hkL hn2 h1
  generalize hlen : L.length = len at *
  have HLEN := hx hlen
  clear hlen
  go_enter Try.func20, Try.ntmps20
  go_wp2_with fail
  refine HCK.out.mono ?_
  rintro e w1 ⟨rfl, hk1⟩
  have K1 := hx hk1
  have HCL1 := hx (HCL.out w1 hk1)
  clear hk1 HCL HCK
  go_wp2_with fail
  refine HCL1.out.mono ?_
  rintro e w2 ⟨gc, cap, rfl, hg0, hg1, hcap, hcs, hk2⟩
  have K2 := hx (K1.out.trans0 hk2)
  have HSO2 := hx (HSO.out gc cap w2 K2.out (Nat.le_trans K1.out.size hg0) hg1 hcs)
  have HCAP := hx hcap
  have hkci : (k : Int) ≤ (cap : Int) := by omega
  clear hg0 hg1 hcs hk2 HCL1 HSO K1 hcap
  go_wp2_with fail
  refine HSO2.out.mono ?_
  rintro e w3 ⟨rfl, S, hp, hs, hsh, hk3⟩
  have K3 := hx hk3
  have HSH := hx hsh
  obtain ⟨hch, hce⟩ := HCO.out S hp hs
  have HCH := hx hch
  have HCE := hx hce
  have HSX := hx (fun i hi => HX0.out S hp i hi)
  have HSL := hx (show k ≤ S.length by rw [HLN.out S hp]; exact HKL.out)
  have HP0 := hx (show pls (S.take 0) = [] from rfl)
  have HB0 := hx (show bys (S.take 0) = [] from rfl)
  have d0 := kept_cell hk3 c0
  clear hp hs hsh hch hce hk3 HCO HX0 HSO2 K2 c0
  go_wp2_with fail
  go_loopw [7, 8, 33] (fun pv bv iv wr => ∃ (i : Nat) (p q : Value), i ≤ k ∧ iv = .int .i64 i ∧ p = pv ∧ q = bv ∧ Il w3.heap.size wr p (pls (S.take i)) ∧ Cl w3.heap.size w3.heap.size wr q (bys (S.take i)) ∧ Kept [] w3 wr) (fun _ _ iv _ => k - (intOf iv).toNat)
  case atStart => exact ⟨0, _, _, by omega, rfl, rfl, rfl, by rw [HP0.out]; exact Il.nil _ _, by rw [HB0.out]; exact Cl.nil _ _ _, Kept.refl _ _⟩
  case round =>
    obtain ⟨i, p, q, hi, rfl, rfl, rfl, hp, hq, hk⟩ := hrel
    have HP := hx hp
    have HQ := hx hq
    have HK := hx hk
    clear hp hq
    by_cases hlt : i < k
    · have hii : (i : Int) < (k : Int) := by omega
      have hiS : i < S.length := by have := HSL.out; omega
      obtain ⟨b, off, ha, hc1, hc2, hbn⟩ := HSH.out i hiS
      simp only [Option.some.injEq, Addr.mk.injEq, and_true] at ha
      obtain ⟨rfl, rfl⟩ := ha
      obtain ⟨y, hy⟩ := Int.eq_ofNat_of_zero_le (HSX.out i hiS)
      rw [hy] at hc1
      have e1 := kept_cell hk hc1
      have e2 := kept_cell hk hc2
      simp only [Nat.zero_add] at e1 e2
      have HE1 := hx (show pls (S.take (i + 1)) = pls (S.take i) ++ [y] by rw [take_step hiS]; exact pls_push _ _ y hy)
      have HE2 := hx (show bys (S.take (i + 1)) = bys (S.take i) ++ [(sd S i).l] by rw [take_step hiS]; exact bys_push _ _)
      have HBB := hx (fun w8 (hk : Kept [] w3 w8) => show Br w3.heap.size w8 (sd S i).a (sd S i).l from Br.ofBn hbn (Nat.le_refl _) hk)
      have HBL := hx (show (S.take i).length = i by rw [List.length_take]; omega)
      clear hc1 hc2 hbn hy hiS hk
      generalize (sd S i).a = sa at *
      generalize (sd S i).c = sc at *
      generalize (sd S i).l = sl2 at *
      generalize hB : S.take i = B at *
      have HPL := hx (pls_len B)
      have HBYL := hx (bys_len B)
      clear hB
      have hka := (Kept.refl [] wr).alloc (.cells #[.int .i64 y, .slice sa sl2.length sc] 47)
      have HK1 := hx (HK.out.trans0 hka)
      have BS1 := hx (Blk.new wr [.int .i64 y, .slice sa sl2.length sc] 47)
      have HP1 := hx (HP.out.kept hka)
      have HQ1 := hx (HQ.out.kept hka)
      clear hka HK HP HQ
      go_upto_region 12 with fail
      clear e1 e2
      generalize wr.heap.size = sx at *
      generalize wr.alloc (.cells #[.int .i64 (y : Int), .slice sa sl2.length sc] 47) = wq at *
      have e0 := BS1.out.cell (i := 0) rfl
      have HBSG := hx (fun o w8 (hg8 : (wq.alloc o).grownBy w8 p.ownBlock) => grown_blk hg8 (BS1.out.alloc o) (own_ne (World.ownsRow.alloc HP1.out.own o) (BS1.out.alloc o) (by decide)))
      go_upto_region 13 with (at_builtin; refine wpList_app rfl (.tmp 37) (.tmp 40) 43 rfl w3.heap.size 3 (.int .i64 0) 1 8 infoInt Try.underlying43 rfl (by omega) p (pls B).length (nts (pls B)) rfl (World.ownsRow.alloc HP1.out.own _) (some ⟨_, 0, none⟩) 1 1 [.int .i64 (y : Int)] rfl rfl (by simp) (by omega) (blk_news (Blk.new _ [.int .i64 (y : Int)] 3)) (one_int _) (by unfold maxLen; rw [HPL.out, HBL.out]; omega) (by rw [HPL.out, HBL.out]; omega) (HK1.out.alloc _).size ?_; intro p2 w8 ho8 hg8; have HQ8 := hx ((HQ1.out.kept ((Kept.refl [] _).alloc _)).grown (World.ownsRow.alloc HP1.out.own _) (by decide) (by decide) (Nat.le_refl _) hg8); have HK8 := hx ((HK1.out.alloc _).grown hg8 (fun q hq => .inr (HP1.out.own.lt q hq).1)); have HP8 := hx (Il.push ho8); have HBS8 := hx (HBSG.out _ _ hg8); clear ho8 hg8 HP1 HK1 HQ1)
      have e2 := HBS8.out.cell (i := 1) rfl
      have HBR8 := hx (HBB.out w8 HK8.out)
      obtain ⟨sl, hs1, hs2, hs3⟩ := HQ8.out.rows
      have HS1 := hx hs1
      have HS2 := hx hs2
      have HS3 := hx hs3
      have HSLB := hx (show sl.length = i by rw [hs1, HBYL.out, HBL.out])
      clear hs1 hs2 hs3 HQ8 e0
      go_wp2_with (at_builtin; refine wpList_app rfl (.tmp 42) (.tmp 45) 22 rfl w3.heap.size 39 (.slice none 0 0) 1 24 infoBs Try.underlying22 rfl (by omega) q sl.length sl rfl (World.ownsRow.alloc HS2.out _) (some ⟨_, 0, none⟩) 1 1 [.slice sa sl2.length sc] rfl rfl (by simp) (by omega) (blk_news (Blk.new _ [.slice sa sl2.length sc] 39)) (one_sl _ _ _) (by unfold maxLen; have := HSLB.out; omega) (by have := HSLB.out; omega) (HK8.out.alloc _).size ?_; intro q2 w9 ho9 hg9; have HK9 := hx ((HK8.out.alloc _).grown hg9 (fun q hq => .inr (HS2.out.lt q hq).1)); have HQ9 := hx (Cl.push HS1.out (World.ownsRow.alloc HS2.out _) (fun q hq => by obtain ⟨ai, ci, p, r⟩ := HS3.out q hq; exact ⟨ai, ci, p, r.kept ((Kept.refl [] _).alloc _)⟩) (Nat.le_refl _) (HBR8.out.kept ((Kept.refl [] _).alloc _)) rfl ho9 hg9); have HP9 := hx ((HP8.out.kept ((Kept.refl [] _).alloc _)).grown (World.ownsRow.alloc HS2.out _) (by decide) hg9); clear ho9 hg9 HS2 HS3 HK8 HP8)
      go_wp2
      go_roundw
      case rel => exact ⟨i + 1, p2, q2, by omega, by go_num, rfl, rfl, by rw [HE1.out]; exact HP9.out, by rw [HE2.out]; exact HQ9.out, HK9.out⟩
      case measure => simp [intOf] <;> omega
    · obtain rfl : i = k := by omega
      have HAL := hx HCH.out.len
      obtain ⟨ap, cp, hpv, _, hin⟩ := HP.out.form
      rw [pls_len, HAL.out] at hpv
      obtain ⟨aq, cq, hqv, _, hcs⟩ := HQ.out.form
      rw [bys_len, HAL.out] at hqv
      subst hpv
      subst hqv
      have KW := hx (K3.out.trans0 hk)
      have S4 := hx (HS.out.kept KW.out)
      have C4 := hx hcs
      have HCE2 := hx (HCE.out.trans (show S.take i = S.take i from rfl))
      generalize hA : S.take i = A at *
      obtain ⟨I, hI1, hI2, hI3, _, _⟩ := HDC.out A HCH.out
      have HI1 := hx hI1
      have HI2 := hx hI2
      have HI3 := hx (hI3.trans (by rw [HCE2.out]) : mulM n I (bys A) = decR i n (cho i L) i)
      have HPK := hx (pick_any gr (i + m) i ((i + m) * i) cp R [] ap (pls A) wr S4.out.r S4.out.mt HKM.out (by omega) HH.out.1 (Nat.le_refl _) HCH.out.lt (by rw [pls_len, HAL.out]; omega) hin)
      rw [pls_len, HAL.out] at HPK
      have HPM := hx (show Mt i i (pickM R (pls A)) by have h := pickM_mt S4.out.mt (l := pls A) HCH.out.lt; rw [pls_len, HAL.out] at h; exact h)
      have HMB := hx HCH.out.mt
      have d3 := S4.out.c.cell (i := 3) rfl
      have d4 := S4.out.c.cell (i := 4) rfl
      have d5 := S4.out.c.cell (i := 5) rfl
      unfold mv at HPK
      generalize hN : i + m = N at *
      clear hin hcs hk d0 hI1 hI2 hI3 HP HQ HK HS hA
      go_wp2_with fail
      refine HPK.out.mono ?_
      rintro e w5 ⟨gp, rfl, hgp, hbp, hk5⟩
      have hka := (Kept.refl [] w5).alloc (.cells #[.int .i64 (i : Int), .int .i64 (i : Int), .slice (some ⟨gp, 0, none⟩) (i * i) (i * i)] 41)
      have S6 := hx ((S4.out.kept hk5).kept hka)
      have C6 := hx ((C4.out.kept hk5).kept hka)
      have K6 := hx ((KW.out.trans0 hk5).trans0 hka)
      have BP := hx (hka.blk hbp (by simp))
      have BX := hx (Blk.new w5 [.int .i64 (i : Int), .int .i64 (i : Int), .slice (some ⟨gp, 0, none⟩) (i * i) (i * i)] 41)
      clear hgp hbp hk5 d3 d4 d5 S4 C4 HPK KW hka
      go_upto_region 16 with fail
      generalize w5.heap.size = gx at *
      generalize w5.alloc (.cells #[.int .i64 (i : Int), .int .i64 (i : Int), .slice (some ⟨gp, 0, none⟩) (i * i) (i * i)] 41) = w6 at *
      have e2 := S6.out.c.cell (i := 2) rfl
      have x0 := BX.out.cell (i := 0) rfl
      have x1 := BX.out.cell (i := 1) rfl
      have x2 := BX.out.cell (i := 2) rfl
      have hkd : Kept [] w6 (w6.alloc (.cells #[.int .i64 0, .int .i64 0, .slice none 0 0] 41)).drew := ((Kept.refl [] w6).alloc (.cells #[.int .i64 0, .int .i64 0, .slice none 0 0] 41)).drew
      have HZB := hx ((Blk.new w6 [.int .i64 0, .int .i64 0, .slice none 0 0] 41).drew)
      have f2 := kept_cell hkd e2
      have y0 := kept_cell hkd x0
      have y1 := kept_cell hkd x1
      have y2 := kept_cell hkd x2
      have HIV := hx (fun w9 (hk : Kept [] w6 w9) => invert_some t i gp (i * i) (pickM R (pls A)) I [] w9 (hk.blk S6.out.tb (by simp)) (hk.blk BP.out (by simp)) HPM.out (by omega) HH.out.1 (Nat.le_refl _) (by unfold maxLen; have := Nat.mul_le_mul (show i ≤ 255 by omega) (show i ≤ 255 by omega); omega) HI1.out)
      unfold mv at HIV
      have hkB : Kept [] w6 w6.drew := (Kept.refl [] w6).drew
      have HBS6 := hx (Nat.le_refl w6.heap.size)
      go_cut [13, 14] (fun s13 s14 wx => ∃ b gi : Nat, s13 = .pointer (some ⟨b, 0, none⟩) ∧ s14 = .int .i64 0 ∧ Blk wx b [.int .i64 (i : Int), .int .i64 (i : Int), .slice (some ⟨gi, 0, none⟩) (i * i) (i * i)] 41 ∧ Blk wx gi (cellsM I []) 5 ∧ Kept [] w6 wx)
      case first =>
        go_region_with (first
          | (go_at_call 29; refine (HIV.out _ hkd).mono ?_; rintro e w9 ⟨gi, rfl, hb9, hk9⟩; have z9 := hk9.blk HZB.out (by simp); have z0 := z9.cell (i := 0) rfl; have z1 := z9.cell (i := 1) rfl; have z2 := z9.cell (i := 2) rfl; have zf := z9.free)
          | (go_at_call 29; refine (HIV.out _ hkB).mono ?_; rintro e w9 ⟨gi, rfl, hb9, hk9⟩))
        all_goals
          go_wp2_with fail
          go_meet
          first
          | exact ⟨_, gi, rfl, rfl, Blk.new w9 _ _, hb9.alloc _, (Kept.trans0 hkB hk9).alloc _⟩
          | (have hne : gi ≠ w6.heap.size := fun e => by
               rw [e] at hb9
               exact absurd (hb9.ty z9) (by decide)
             exact ⟨_, gi, rfl, rfl, ((z9.set 0 _).set 1 _).set 2 _, ((hb9.set_ne (by simp; omega) _).set_ne (by simp; omega) _).set_ne (by simp; omega) _, (((Kept.trans0 hkd hk9).setCell (.inr (by simp)) _).setCell (.inr (by simp)) _).setCell (.inr (by simp)) _⟩)
      case rest =>
        obtain ⟨b, gi, rfl, rfl, hb1, hb2, hk9⟩ := hcut
        have K9 := hx (K6.out.trans0 hk9)
        have S9 := hx (S6.out.kept hk9)
        have C9 := hx (C6.out.kept hk9)
        have x0 := hb1.cell (i := 0) rfl
        have x1 := hb1.cell (i := 1) rfl
        have x2 := hb1.cell (i := 2) rfl
        have e2 := S9.out.c.cell (i := 2) rfl
        have hkw : Kept [] wc wc.drew := (Kept.refl [] wc).drew
        have y0 := kept_cell hkw x0
        have y1 := kept_cell hkw x1
        have y2 := kept_cell hkw x2
        have f2 := kept_cell hkw e2
        have HAP := hx (fun w9 (hk : Kept [] wc w9) => apply_any t gi i i (i * i) n cq I (bys A) [] aq w9 (hk.blk S9.out.tb (by simp)) (hk.blk hb2 (by simp)) HI2.out (by omega) (by omega) HH.out.1 (Nat.le_refl _) HMB.out (by have := HH.out.2; omega) (C9.out.kept hk))
        rw [HI3.out] at HAP
        unfold mv at HAP
        clear hb1 hb2 hk9 HIV HPM BP BX S6 C6 K6 HZB hkd hkB
        go_upto_region 19 with fail
        go_region_with (go_at_call 32; refine (HAP.out _ (by assumption)).mono ?_; rintro e w8 ⟨ar, rfl, hcs8, hk8⟩; have K8 := hx (K9.out.trans0 (Kept.trans0 (by assumption) hk8)); have C8 := hx hcs8; clear hcs8 hk8)
        all_goals
          go_wp2_with fail
          try go_ret2
          exact HPP.out _ _ C8.out K8.out
end Go.Proofs.Ytjgnngnknhkpmaa
