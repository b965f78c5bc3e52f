/- A region that draws, walked by hand under a condition that is held. RsDecodes. -/
import Derived.Deep.RegionHeld3
import Derived.Test.YtjgnngnknhkpmaaMem
import Derived.Test.YtjgnngnknhkpmaaFit
import Derived.Lib.Bytes
namespace Go.Proofs.Ytjgnngnknhkpmaa
open Go Go.RowKit
theorem take_by {P : Program} {md : Region.Mode} {ops : Array Oper} {Q : Exit → Act → World → Prop} {S : World → Prop} (i d : Nat) {oi : Oper} {v : Value} {fuel : Nat} {listed : Array Bool} {a : Act} {w : World} (hi : ops[i]? = some oi) (hd : oi.dst = some d)
    (hs : Region.noSelect ops = true) (hf : Region.free md ops listed i = true) (hr : (Region.ready md ops listed).contains i = true)
    (hQ : ∀ c a w, Q (.panic c) (a.put oi.dst v) w → Q (.panic c) a w) (hy : YieldsIf P ops S oi v a) (hS : S w)
    (h : wpAnyH P md ops Q S fuel (listed.setIfInBounds i true) { tmps := a.tmps.setIfInBounds d v, defers := a.defers } w) : wpAnyH P md ops Q S (fuel + 1) listed a w := by
  refine wpAnyH_take hi hs hf hr hQ hy hS ?_
  rw [hd]
  exact h
end Go.Proofs.Ytjgnngnknhkpmaa
namespace Go.Proofs.Ytjgnngnknhkpmaa
open Go Go.RowKit
theorem strOf_inj {a b : List Nat} (oa : Oct a) (ob : Oct b) (h : strOf a = strOf b) : a = b := by
  have h1 : (a.map fun x => UInt8.ofNat x) = b.map fun x => UInt8.ofNat x := by
    have := congrArg (fun s : ByteArray => s.data.toList) h
    simpa only [strOf, strOfNums, List.map_map, Function.comp_def, Int.toNat_natCast] using this
  have hl : a.length = b.length := by simpa using congrArg List.length h1
  refine List.ext_getElem hl fun i h2 h3 => ?_
  have h4 := congrArg (fun l : List UInt8 => l[i]?) h1
  simp only [List.getElem?_map, List.getElem?_eq_getElem h2, List.getElem?_eq_getElem h3, Option.map_some, Option.some.injEq] at h4
  have h5 := congrArg UInt8.toNat h4
  have h6 := oa _ (List.getElem_mem h2)
  have h7 := ob _ (List.getElem_mem h3)
  simp only [UInt8.toNat_ofNat'] at h5
  omega
theorem strOf_injL {a b : List Nat} (oa : Oct a) (ob : Oct b) (h : (strOf a).toList = (strOf b).toList) : a = b := by
  unfold strOf at h
  rw [Go.Lib.strOfNums_toList, Go.Lib.strOfNums_toList] at h
  refine strOf_inj oa ob ?_
  have h1 : (strOf a).data.toList = (strOf b).data.toList := h
  exact ByteArray.ext (Array.toList_inj.1 h1)
theorem chk_ex (k N : Nat) (L : List Sd) : ∃ q, ChkP k N L q := by
  by_cases h1 : Good N L
  · by_cases h2 : k ≤ L.length
    · by_cases h3 : EqL (byn L L.length)
      · exact ⟨0, .inr (.inr (.inr ⟨h1, h2, h3, rfl⟩))⟩
      · exact ⟨61, .inr (.inr (.inl ⟨h1, h2, h3, rfl⟩))⟩
    · exact ⟨63, .inr (.inl ⟨h1, by omega, rfl⟩)⟩
  · exact ⟨62, .inl ⟨h1, rfl⟩⟩
/-- What the three give. -/
structure DecB (k m : Nat) (c1 : Value) (a2 : Option Addr) (L : List Sd) (c2 : Nat) (w : World) (n q : Nat) (ls : List (List Nat)) : Prop where
  dec : ∀ w1, Kept [] w w1 → Calls Try.prog 20 #[c1, .slice a2 L.length c2] w1 fun e w' => ∃ a c, e = .returned (.tuple #[.slice a ls.length c, .int .i64 (q : Int)]) ∧ Cs w' a ls ∧ Kept [] w1 w'
  rdec : ∀ w1, Kept [] w w1 → Calls Try.prog 21 #[.int .i64 k, .int .i64 m, .slice a2 L.length c2] w1 fun e w' => ∃ a c, e = .returned (.tuple #[.slice a ls.length c, .int .i64 (q : Int)]) ∧ Cs w' a ls ∧ Kept [] w1 w'
  fits : ∀ w1, Kept [] w w1 → Calls Try.prog 22 #[c1, .slice a2 L.length c2] w1 fun e w' => ∃ b : Bool, e = .returned (.tuple #[.bool b, .int .i64 (q : Int)]) ∧ (q ≠ 0 → b = false) ∧ (q = 0 → (b = true ↔ FitB k n L)) ∧ Kept [] w1 w'
  len : ls.length ≤ 255
  ok : q = 0 → Good (k + m) L ∧ k ≤ L.length ∧ EqL (byn L L.length) ∧ (rw (byn L L.length) 0).length = n
theorem decB_any (t g gr k m c2 : Nat) (R : List (List Nat)) (a2 : Option Addr) (L : List Sd) (w : World) (s : Cod w t g gr k m R) (h1 : 1 ≤ k) (hkm : k + m ≤ 255) (hS : Sh w a2 L) (hL : L.length ≤ 1000) (hO : ∀ s ∈ L, Oct s.l) :
    ∃ n q ls, DecB k m (.pointer (some ⟨g, 0, none⟩)) a2 L c2 w n q ls := by
  obtain ⟨q, hq⟩ := chk_ex k (k + m) L
  by_cases hq0 : q = 0
  · rcases hq with ⟨_, rfl⟩ | ⟨_, _, rfl⟩ | ⟨_, _, _, rfl⟩ | ⟨hG, hkL, hE, rfl⟩
    · omega
    · omega
    · omega
    · refine ⟨_, 0, decR k (rw (byn L L.length) 0).length (cho k L) k, fun w1 hk => ?_, fun w1 hk => ?_, fun w1 hk => ?_, by rw [decR_len]; omega, fun _ => ⟨hG, hkL, hE, rfl⟩⟩
      · refine (dec_good t g gr k m c2 _ R a2 L w1 (s.kept hk) h1 hkm (hS.kept hk) hL hO hG hkL hE rfl).mono ?_
        rintro e w' ⟨a, h2, h3, h4⟩
        exact ⟨a, k, by rw [decR_len]; exact h2, h3, h4⟩
      · refine (rdec_good k m c2 _ a2 L w1 h1 hkm (hS.kept hk) hL hO hG hkL hE rfl).mono ?_
        rintro e w' ⟨a, c, h2, h3, h4⟩
        exact ⟨a, c, by rw [decR_len]; exact h2, h3, h4⟩
      · refine (fits_good t g gr k m c2 _ R a2 L w1 (s.kept hk) h1 hkm (hS.kept hk) hL hO hG hkL hE rfl).mono ?_
        rintro e w' ⟨b, h2, h3, h4⟩
        exact ⟨b, h2, fun h => absurd rfl h, fun _ => h3, h4⟩
  · refine ⟨0, q, [], fun w1 hk => ?_, fun w1 hk => ?_, fun w1 hk => ?_, by simp, fun h => absurd h hq0⟩
    · refine (dec_bad t g gr k m c2 q R a2 L w1 (s.kept hk) h1 hkm (hS.kept hk) hL hq hq0).mono ?_
      rintro e w' ⟨h2, h3⟩
      exact ⟨none, 0, h2, cs_nil _ _, h3⟩
    · refine (rdec_bad k m c2 q a2 L w1 h1 hkm (hS.kept hk) hL hq hq0).mono ?_
      rintro e w' ⟨h2, h3⟩
      exact ⟨none, 0, h2, cs_nil _ _, h3⟩
    · refine (fits_bad t g gr k m c2 q R a2 L w1 (s.kept hk) h1 hkm (hS.kept hk) hL hq hq0).mono ?_
      rintro e w' ⟨h2, h3⟩
      exact ⟨false, h2, fun _ => rfl, fun h => absurd h hq0, h3⟩
theorem least_cho (k N c2 : Nat) (a2 : Option Addr) (L : List Sd) (w : World) (hG : Good N L) (hN : N ≤ 255) (hk : k ≤ L.length) (hS : Sh w a2 L) (hL : L.length ≤ 1000) :
    Calls Try.prog 23 #[.int .i64 k, .slice a2 L.length c2] w fun e w' => ∃ a c a' c', e = .returned (.tuple #[.slice a k c, .slice a' k c']) ∧ In w' a (pls (cho k L)) ∧ Cs w' a' (bys (cho k L)) ∧ Kept [] w w' :=
  (least_any k N c2 a2 L w hk hN hS hL hG).mono (by
    rintro e w' ⟨a, c, a', c', nn, h1, h2, h3, h4, h5⟩
    rw [lea_cho hG hN h2] at h3 h4
    exact ⟨a, c, a', c', h1, h3, h4, h5⟩)
theorem at_cho {N k n : Nat} {L : List Sd} (hch : Chs N k n L (cho k L)) (hN : N ≤ 255) (h1 : 1 ≤ k) (hk : k ≤ 255) (hn : n ≤ 1200) (al a9 : Option Addr) (c3 c4 q : Nat) (hq : q < 256) (w : World) (hI : In w al (pls (cho k L))) (hC : Cs w a9 (bys (cho k L))) :
    Calls Try.prog 24 #[.slice al k c3, .slice a9 k c4, .int .i64 q] w fun e w' => ∃ g, e = .returned (.slice (some ⟨g, 0, none⟩) n n) ∧ Blk w' g ((mulRow n (bys (cho k L)) (wts (pls (cho k L)) q) k).map bn) 5 ∧ w.heap.size ≤ g ∧ Kept [] w w' := by
  have hpl : (pls (cho k L)).length = k := by rw [pls_len, hch.len]
  have h := rat_any al a9 (pls (cho k L)) c3 c4 q n (bys (cho k L)) w hI (fun x hx1 => by have := hch.lt x hx1; omega) (by rw [hpl]; exact h1) (by rw [hpl]; omega) hq (by rw [hpl]; exact hch.mt) hC (by omega)
  rw [hpl] at h
  exact h
theorem byn_all (L : List Sd) : byn L L.length = bys L := byn_bys L
set_option maxRecDepth 100000 in
set_option maxHeartbeats 8000000 in
theorem law_decodes (ki mi : Int) (c2 : Nat) (a2 : Option Addr) (L : List Sd) (w : World) (hS : Sh w a2 L) (hO : ∀ s ∈ L, Oct s.l) (hLm : L.length ≤ maxLen) :
    Calls Try.prog 5 #[.int .i64 ki, .int .i64 mi, .slice a2 L.length c2] w fun e w' => e = .returned (.bool true) ∧ Kept [] w w' := by
  have HS := hx hS
  have HO := hx hO
  have HSI := hx (fun i (hi : i < L.length) => hS i hi)
  have HBN := hx (fun i => byn_step L i)
  have HBL := hx (fun i => byn_len L i)
  have hLi : (L.length : Int) ≤ maxLen := by omega
  unfold maxLen at hLi
  clear hS hO hLm
  generalize hlen : L.length = len at *
  have HLEN := hx hlen
  clear hlen
  go_enter Try.func5, Try.ntmps5
  go_wp2_with fail
  refine (awake_any w).mono ?_
  rintro e w1 ⟨rfl, hk1⟩
  have K1 := hx hk1
  clear hk1
  go_wp2_with fail
  go_loopw [7, 8] (fun ov iv wr => ∃ (i : Nat) (u : Value), i ≤ len ∧ i ≤ 50 ∧ iv = .int .i64 i ∧ u = ov ∧ Cl w1.heap.size w1.heap.size wr u (byn L i) ∧ Kept [] w1 wr) (fun _ iv _ => len - (intOf iv).toNat)
  case atStart => exact ⟨0, _, by omega, by omega, rfl, rfl, Cl.nil _ _ _, Kept.refl _ _⟩
  case round =>
    obtain ⟨i, u, hi, hi2, rfl, rfl, ho, hk⟩ := hrel
    have HOU := hx ho
    have HK := hx hk
    clear ho
    by_cases hgo : i < len ∧ i < 50
    · obtain ⟨hlt, h50⟩ := hgo
      have hii : (i : Int) < (len : Int) := by omega
      have h50i : (i : Int) < 50 := by omega
      obtain ⟨b, off, rfl, hc1, hc2, hbn⟩ := HSI.out i hlt
      have hk9 := K1.out.trans0 hk
      have e2 := kept_cell hk9 hc2
      have HBR := hx (show Br w1.heap.size wr (sd L i).a (sd L i).l from Br.ofBn (hbn.kept K1.out) (Nat.le_refl _) hk)
      have HE := hx (HBN.out i)
      have HL := hx (HBL.out i)
      clear hc1 hc2 hbn hk hk9
      generalize (sd L i).a = sa at *
      generalize (sd L i).c = sc at *
      generalize (sd L i).l = sl2 at *
      obtain ⟨sl, hs1, hs2, hs3⟩ := HOU.out.rows
      have HS1 := hx hs1
      have HS2 := hx hs2
      have HS3 := hx hs3
      clear hs1 hs2 hs3 HOU
      go_wp2_with (at_builtin; refine wpList_app rfl (.tmp 33) (.tmp 39) 22 rfl w1.heap.size 39 (.slice none 0 0) 1 24 infoBs Try.underlying22 rfl (by omega) u sl.length sl rfl (World.ownsRow.alloc HS2.out _) (some ⟨_, 0, none⟩) 1 1 [.slice sa sl2.length sc] rfl rfl (by simp) (by omega) (blk_news (Blk.new _ [.slice sa sl2.length sc] 39)) (one_sl _ _ _) (by unfold maxLen; have := HS1.out; have := HL.out; omega) (by have := HS1.out; have := HL.out; omega) (HK.out.alloc _).size ?_; intro u2 w8 ho8 hg8; have HK8 := hx ((HK.out.alloc _).grown hg8 (fun q hq => .inr (HS2.out.lt q hq).1)); have HO8 := hx (Cl.push HS1.out (World.ownsRow.alloc HS2.out _) (fun q hq => by obtain ⟨ai, ci, p, r⟩ := HS3.out q hq; exact ⟨ai, ci, p, r.kept ((Kept.refl [] _).alloc _)⟩) (Nat.le_refl _) (HBR.out.kept ((Kept.refl [] _).alloc _)) rfl ho8 hg8); clear ho8 hg8 HS2 HS3 HK)
      go_wp2
      go_roundw
      case rel => exact ⟨i + 1, u2, by omega, by omega, by go_num, rfl, by rw [HE.out]; exact HO8.out, HK8.out⟩
      case measure => simp [intOf] <;> omega
    · have HGO := hx hgo
      have K2 := hx (K1.out.trans0 hk)
      obtain ⟨al, cl, hv, _, hcs⟩ := HOU.out.form
      have HCS := hx hcs
      have HFW := hx (fun w9 (hk : Kept [] wr w9) => few_any al cl (byn L i) w9 (hcs.kept hk))
      clear hk hcs HOU HK hgo
      rw [HBL.out] at hv HFW
      subst hv
      by_cases hlt : i < len
      · have h50 : i = 50 := by have := HGO.out; omega
        have hii : (i : Int) < (len : Int) := by omega
        have h50i : ¬ (i : Int) < 50 := by omega
        have h40 : 40 < (len : Int) := by omega
        clear h50
        go_wp2_with fail
        refine (small_any ki mi wr).mono ?_
        rintro e w4 ⟨hs, rfl⟩
        rcases hs with ⟨hs, rfl⟩ | ⟨_, rfl⟩
        all_goals
          go_wp2_with fail
          try go_ret
          exact ⟨rfl, K2.out⟩
      · obtain rfl : i = len := by omega
        have hii : ¬ (i : Int) < (i : Int) := by omega
        by_cases h40 : 40 < i
        · have h40i : 40 < (i : Int) := by omega
          go_wp2_with fail
          refine (small_any ki mi wr).mono ?_
          rintro e w4 ⟨hs, rfl⟩
          rcases hs with ⟨hs, rfl⟩ | ⟨_, rfl⟩
          all_goals
            go_wp2_with fail
            try go_ret
            exact ⟨rfl, K2.out⟩
        · have h40i : ¬ 40 < (i : Int) := by omega
          go_wp2_with fail
          refine (small_any ki mi wr).mono ?_
          rintro e w4 ⟨hs, rfl⟩
          rcases hs with ⟨hs, rfl⟩ | ⟨_, rfl⟩
          · go_wp2_with fail
            refine (HFW.out wr (Kept.refl _ _)).mono ?_
            rintro e w4 ⟨hf, rfl⟩
            rcases hf with ⟨_, rfl⟩ | rfl
            · obtain ⟨k, rfl⟩ := Int.eq_ofNat_of_zero_le (show 0 ≤ ki by have := hs.1; omega)
              obtain ⟨m, rfl⟩ := Int.eq_ofNat_of_zero_le (show 0 ≤ mi by have := hs.2.1; omega)
              have HSM := hx (show 1 ≤ k ∧ k + m ≤ 255 ∧ k ≤ 20 by obtain ⟨h1, h2, h3, h4⟩ := hs; omega)
              clear hs HFW
              go_wp2_with fail
              refine (gfnew_any wr).mono ?_
              rintro e w5 ⟨rfl, hT, hk2⟩
              have HT := hx hT
              have K3 := hx (K2.out.trans0 hk2)
              have HNW := hx (rsnew_any wr.heap.size k m w5 hT HSM.out.1 HSM.out.2.1)
              clear hT hk2 K2
              generalize wr.heap.size = t at *
              go_wp2_with fail
              refine HNW.out.mono ?_
              rintro e w6 hc
              obtain ⟨g, gr, R, rfl, hcod, hk3⟩ := cod_new HT.out HSM.out.2.1 hc
              have K4 := hx (K3.out.trans0 hk3)
              have hdb := decB_any t g gr k m c2 R a2 L w6 hcod HSM.out.1 HSM.out.2.1 (HS.out.kept K4.out) (by rw [HLEN.out]; omega) HO.out
              clear hc hcod hk3 HNW HT K3
              obtain ⟨n, q, ls, hd⟩ := hdb
              have HD := hx hd
              have HP := hx (hd.dec w6 (Kept.refl _ _))
              rw [HLEN.out] at HP
              clear hd
              go_wp2_with fail
              refine HP.out.mono ?_
              rintro e w7 ⟨a7, c7, rfl, hc7, hk7⟩
              have H7 := hx hc7
              have K7 := hx (show Kept [] w6 w7 from hk7)
              have HR := hx (HD.out.rdec w7 K7.out)
              rw [HLEN.out] at HR
              clear hc7 hk7 HP
              go_wp2_with fail
              refine HR.out.mono ?_
              rintro e w8 ⟨a8, c8, rfl, hc8, hk8⟩
              have K8 := hx (K7.out.trans0 hk8)
              have HSA := hx (same_any a7 a8 c7 c8 ls w8 (H7.out.kept hk8) hc8 (by have := HD.out.len; omega))
              clear hc8 hk8 HR K7 H7
              have hqq : ((q : Int) != (q : Int)) = false := by simp
              go_wp2_with fail
              refine HSA.out.mono ?_
              rintro e w9 ⟨rfl, hk9⟩
              have K9 := hx (K8.out.trans0 hk9)
              have HF := hx (HD.out.fits w9 K9.out)
              rw [HLEN.out] at HF
              clear hk9 HSA K8
              go_wp2_with fail
              refine HF.out.mono ?_
              rintro e wA ⟨b, rfl, hb1, hb2, hkA⟩
              have KA := hx (K9.out.trans0 hkA)
              clear hkA HF K9
              by_cases hq0 : q = 0
              · subst hq0
                have HB := hx (hb2 rfl)
                obtain ⟨hG, hkL, hE, hn⟩ := HD.out.ok rfl
                have hch := cho_ok (k := k) hG HSM.out.2.1 hkL hE HO.out hn
                have hn2 : n ≤ 1200 := by rw [← hn]; exact hE.1
                have HLE := hx (least_cho k (k + m) c2 a2 L wA hG HSM.out.2.1 hkL (HS.out.kept (K4.out.trans0 KA.out)) (by rw [HLEN.out]; omega))
                rw [HLEN.out] at HLE
                have HAT := hx (fun al a9 c3 c4 q w hq hI hC => at_cho (L := L) hch HSM.out.2.1 HSM.out.1 (by have := HSM.out.2.2; omega) hn2 al a9 c3 c4 q hq w hI hC)
                have HML := hx (fun x => mulRow_ok hch.mt x k (Nat.le_refl _))
                have HLN := hx (fun i (hi : i < L.length) => (⟨HO.out _ (sd_mem hi), by rw [eql_len hE _ (sd_mem hi), hn]⟩ : Oct (sd L i).l ∧ (sd L i).l.length = n))
                have HX0 := hx (fun i (hi : i < L.length) => good_bound hG (sd L i) (sd_mem hi))
                have HFB := hx (show FitB k n L ↔ ∀ i, i < L.length → mulRow n (bys (cho k L)) (wts (pls (cho k L)) (sd L i).x.toNat) k = (sd L i).l from Iff.rfl)
                have HN5 := hx HSM.out.2.1
                obtain ⟨N, hN⟩ : ∃ N, k + m = N := ⟨_, rfl⟩
                rw [hN] at HX0 HN5
                clear hb1 hb2 hG hkL hE hn hch hn2 hN
                rw [HLEN.out] at HLN HX0 HFB
                go_wp2_with fail
                refine HLE.out.mono ?_
                rintro e wB ⟨ap, cp, aq, cq, rfl, hin, hcs2, hkB⟩
                have HI := hx hin
                have HC := hx hcs2
                have KB := hx (K4.out.trans0 (KA.out.trans0 hkB))
                clear HLE hin hcs2 hkB
                go_wp2_with fail
                go_loopw [19, 20] (fun ov iv wz => ∃ (j : Nat) (o : Bool), j ≤ i ∧ iv = .int .i64 j ∧ ov = .bool o ∧ (o = true ↔ ∀ p, p < j → mulRow n (bys (cho k L)) (wts (pls (cho k L)) (sd L p).x.toNat) k = (sd L p).l) ∧ Kept [] wB wz) (fun _ iv _ => i - (intOf iv).toNat)
                case atStart => exact ⟨0, true, by omega, rfl, rfl, by simp, Kept.refl _ _⟩
                case round =>
                  obtain ⟨j, o, hj, rfl, rfl, ho, hk⟩ := hrel
                  have HOO := hx ho
                  have HK := hx hk
                  clear ho
                  by_cases hlj : j < i
                  · have hji : (j : Int) < (i : Int) := by omega
                    cases o
                    · have hS2 := hx (show ∀ p : Nat → Prop, ¬ (∀ q, q < j → p q) → ¬ (∀ q, q < j + 1 → p q) from fun p h1 h2 => h1 fun q hq => h2 q (by omega))
                      go_upto_region 27 with fail
                      go_quiet (fail)
                      go_wp2_with fail
                      go_roundw
                      case rel => exact ⟨j + 1, false, by omega, by go_num, rfl, by
                        have h1 := hS2.out _ (fun h => by have := HOO.out.2 h; cases this)
                        simp only [Bool.false_eq_true, false_iff]
                        exact h1, by first | exact HK.out | exact HK.out.drew | exact HK.out.drewN _⟩
                      case measure => simp [intOf] <;> omega
                    · obtain ⟨b2, off, rfl, hc1, hc2, hbn⟩ := HSI.out j hlj
                      have hk9 := KB.out.trans0 hk
                      have e1 := kept_cell hk9 hc1
                      have e2 := kept_cell hk9 hc2
                      obtain ⟨hx0, hx1⟩ := HX0.out j hlj
                      obtain ⟨y, hy⟩ := Int.eq_ofNat_of_zero_le hx0
                      have hyN : y < 256 := by have := HN5.out; omega
                      have hty : (sd L j).x.toNat = y := by omega
                      have HTY := hx hty
                      rw [hy] at e1
                      have HATW := hx (fun w9 (hk9 : Kept [] wr w9) => HAT.out ap aq cp cq y w9 hyN (HI.out.kept (hk.trans0 hk9)) (HC.out.kept (hk.trans0 hk9)))
                      have hbw := hbn.kept hk9
                      have HLO := hx (HLN.out j hlj)
                      have HST := hx (fun (h : ¬ mulRow n (bys (cho k L)) (wts (pls (cho k L)) y) k = (sd L j).l) (h2 : (strOf (mulRow n (bys (cho k L)) (wts (pls (cho k L)) y) k)).toList = (strOf (sd L j).l).toList) => h (strOf_injL (HML.out _).2 HLO.out.1 h2))
                      have HRL := hx (HML.out (wts (pls (cho k L)) y)).1
                      have hkd : Kept [] wr wr.drew := (Kept.refl [] wr).drew
                      clear hc1 hc2 hbn hk hk9 hy hx0 hx1 hty
                      generalize hrow : mulRow n (bys (cho k L)) (wts (pls (cho k L)) y) k = row at *
                      have HRO := hx hrow
                      clear hrow
                      have HSI2 := hx (fun j => HSI.out j)
                      generalize (sd L j).a = sa at *
                      generalize (sd L j).c = sc at *
                      generalize hsl : (sd L j).l = sl2 at *
                      have HSL := hx hsl
                      clear hsl
                      have v1 := conv_bn hbw sc
                      have HBW := hx (fun w9 (hk9 : Kept [] wr w9) => conv_bn (hbw.kept hk9) sc)
                      have v2 := HBW.out _ hkd
                      have HLL := hx HLO.out.2
                      rw [HLL.out] at e2 v1 v2 HBW
                      have g1 := kept_cell hkd e1
                      have g2 := kept_cell hkd e2
                      have HE1 := hx e1
                      have HE2 := hx e2
                      have HCV := hx (fun w9 g (h : Blk w9 g (row.map bn) 5) => show (convert 39 9 (.slice (some ⟨g, 0, none⟩) n n)).run Try.prog w9 = .ok (.string (strOf row)) w9 by
                        have h2 := conv_bn (bn_blk h) n
                        rw [HRL.out] at h2
                        exact h2)
                      clear hbw
                      by_cases hrs : row = sl2
                      · have HRS := hx hrs
                        subst hrs
                        clear HST
                        generalize strOf row = ss at *
                        go_upto_region 27 with fail
                        have HG := hx (fun (w3 w4 : World) (h : (w3.cell? ⟨b2, off + j * 2, none⟩ = some (.int .i64 (y : Int)) ∧ w3.cell? ⟨b2, off + j * 2 + 1, none⟩ = some (.slice sa n sc) ∧ (convert 39 9 (.slice sa n sc)).run Try.prog w3 = .ok (.string ss) w3) ∧ Hx (Kept [] wr w3)) (hk : Kept [] w3 w4) => (show (w4.cell? ⟨b2, off + j * 2, none⟩ = some (.int .i64 (y : Int)) ∧ w4.cell? ⟨b2, off + j * 2 + 1, none⟩ = some (.slice sa n sc) ∧ (convert 39 9 (.slice sa n sc)).run Try.prog w4 = .ok (.string ss) w4) ∧ Hx (Kept [] wr w4) from ⟨⟨kept_cell hk h.1.1, kept_cell hk h.1.2.1, HBW.out w4 (h.2.out.trans0 hk)⟩, hx (h.2.out.trans0 hk)⟩))
                        have HATS := hx (fun (w3 : World) (h : (w3.cell? ⟨b2, off + j * 2, none⟩ = some (.int .i64 (y : Int)) ∧ w3.cell? ⟨b2, off + j * 2 + 1, none⟩ = some (.slice sa n sc) ∧ (convert 39 9 (.slice sa n sc)).run Try.prog w3 = .ok (.string ss) w3) ∧ Hx (Kept [] wr w3)) => HATW.out w3 h.2.out)
                        have HS0 := hx (show (wr.drew.cell? ⟨b2, off + j * 2, none⟩ = some (.int .i64 (y : Int)) ∧ wr.drew.cell? ⟨b2, off + j * 2 + 1, none⟩ = some (.slice sa n sc) ∧ (convert 39 9 (.slice sa n sc)).run Try.prog wr.drew = .ok (.string ss) wr.drew) ∧ Hx (Kept [] wr wr.drew) from ⟨⟨g1, g2, v2⟩, hx hkd⟩)
                        clear e1 e2 v1 v2 g1 g2 HATW HBW
                        refine wp_region_held_drew (S := (fun w3 => (w3.cell? ⟨b2, off + j * 2, none⟩ = some (.int .i64 (y : Int)) ∧ w3.cell? ⟨b2, off + j * 2 + 1, none⟩ = some (.slice sa n sc) ∧ (convert 39 9 (.slice sa n sc)).run Try.prog w3 = .ok (.string ss) w3) ∧ Hx (Kept [] wr w3))) (by kernel_rfl) (HS0.out) (fun hHeld => ?_)
                        refine take_by 0 115 (v := ?_) rfl rfl (by kernel_rfl) (by kernel_rfl) (by kernel_rfl) (fun _ _ _ h => h) (Or.inl ⟨by rfl, ?_⟩) (by assumption) ?_
                        rotate_left
                        · (intro w hSw; (try dsimp only at hSw); go_simp; try with_reducible rfl)
                        try simp only [List.setIfInBounds_toArray, List.set_cons_zero, List.set_cons_succ]
                        refine take_by 1 116 (v := ?_) rfl rfl (by kernel_rfl) (by kernel_rfl) (by kernel_rfl) (fun _ _ _ h => h) (Or.inl ⟨by rfl, ?_⟩) (by assumption) ?_
                        rotate_left
                        · (intro w hSw; (try dsimp only at hSw); go_simp; try with_reducible rfl)
                        try simp only [List.setIfInBounds_toArray, List.set_cons_zero, List.set_cons_succ]
                        refine take_by 2 117 (v := ?_) rfl rfl (by kernel_rfl) (by kernel_rfl) (by kernel_rfl) (fun _ _ _ h => h) (Or.inl ⟨by rfl, ?_⟩) (by assumption) ?_
                        rotate_left
                        · (intro w hSw; (try dsimp only at hSw); go_simp; try with_reducible rfl)
                        try simp only [List.setIfInBounds_toArray, List.set_cons_zero, List.set_cons_succ]
                        refine take_by 3 118 (v := ?_) rfl rfl (by kernel_rfl) (by kernel_rfl) (by kernel_rfl) (fun _ _ _ h => h) (Or.inl ⟨by rfl, ?_⟩) (by assumption) ?_
                        rotate_left
                        · (intro w hSw; (try dsimp only at hSw); go_simp; try with_reducible rfl)
                        try simp only [List.setIfInBounds_toArray, List.set_cons_zero, List.set_cons_succ]
                        refine take_by 4 119 (v := ?_) rfl rfl (by kernel_rfl) (by kernel_rfl) (by kernel_rfl) (fun _ _ _ h => h) (Or.inl ⟨by rfl, ?_⟩) (by assumption) ?_
                        rotate_left
                        · (intro w hSw; (try dsimp only at hSw); go_simp; try with_reducible rfl)
                        try simp only [List.setIfInBounds_toArray, List.set_cons_zero, List.set_cons_succ]
                        refine take_by 5 120 (v := ?_) rfl rfl (by kernel_rfl) (by kernel_rfl) (by kernel_rfl) (fun _ _ _ h => h) (Or.inl ⟨by rfl, ?_⟩) (by assumption) ?_
                        rotate_left
                        · (intro w hSw; (try dsimp only at hSw); go_simp; try with_reducible rfl)
                        try simp only [List.setIfInBounds_toArray, List.set_cons_zero, List.set_cons_succ]
                        refine take_by 6 121 (v := ?_) rfl rfl (by kernel_rfl) (by kernel_rfl) (by kernel_rfl) (fun _ _ _ h => h) (Or.inl ⟨by rfl, ?_⟩) (by assumption) ?_
                        rotate_left
                        · (intro w hSw; (try dsimp only at hSw); go_simp; try with_reducible rfl)
                        try simp only [List.setIfInBounds_toArray, List.set_cons_zero, List.set_cons_succ]
                        refine take_by 7 122 (v := ?_) rfl rfl (by kernel_rfl) (by kernel_rfl) (by kernel_rfl) (fun _ _ _ h => h) (Or.inl ⟨by rfl, ?_⟩) (by assumption) ?_
                        rotate_left
                        · (intro w hSw; (try dsimp only at hSw); go_simp; try with_reducible rfl)
                        try simp only [List.setIfInBounds_toArray, List.set_cons_zero, List.set_cons_succ]
                        refine take_by 8 123 (v := ?_) rfl rfl (by kernel_rfl) (by kernel_rfl) (by kernel_rfl) (fun _ _ _ h => h) (Or.inl ⟨by rfl, ?_⟩) (by assumption) ?_
                        rotate_left
                        · (intro w hSw; (try dsimp only at hSw); go_simp; try with_reducible rfl)
                        try simp only [List.setIfInBounds_toArray, List.set_cons_zero, List.set_cons_succ]
                        refine take_by 11 126 (v := ?_) rfl rfl (by kernel_rfl) (by kernel_rfl) (by kernel_rfl) (fun _ _ _ h => h) (Or.inl ⟨by rfl, ?_⟩) (by assumption) ?_
                        rotate_left
                        · (intro w hSw; (try dsimp only at hSw); go_simp; try with_reducible rfl)
                        try simp only [List.setIfInBounds_toArray, List.set_cons_zero, List.set_cons_succ]
                        refine take_by 12 127 (v := ?_) rfl rfl (by kernel_rfl) (by kernel_rfl) (by kernel_rfl) (fun _ _ _ h => h) (Or.inl ⟨by rfl, ?_⟩) (by assumption) ?_
                        rotate_left
                        · (intro w hSw; (try dsimp only at hSw); go_simp; try with_reducible rfl)
                        try simp only [List.setIfInBounds_toArray, List.set_cons_zero, List.set_cons_succ]
                        refine take_by 13 128 (v := ?_) rfl rfl (by kernel_rfl) (by kernel_rfl) (by kernel_rfl) (fun _ _ _ h => h) (Or.inl ⟨by rfl, ?_⟩) (by assumption) ?_
                        rotate_left
                        · (intro w hSw; (try dsimp only at hSw); go_simp; try with_reducible rfl)
                        try simp only [List.setIfInBounds_toArray, List.set_cons_zero, List.set_cons_succ]
                        refine take_by 14 129 (v := ?_) rfl rfl (by kernel_rfl) (by kernel_rfl) (by kernel_rfl) (fun _ _ _ h => h) (Or.inl ⟨by rfl, ?_⟩) (by assumption) ?_
                        rotate_left
                        · (intro w hSw; (try dsimp only at hSw); go_simp; try with_reducible rfl)
                        try simp only [List.setIfInBounds_toArray, List.set_cons_zero, List.set_cons_succ]
                        refine take_by 15 130 (v := ?_) rfl rfl (by kernel_rfl) (by kernel_rfl) (by kernel_rfl) (fun _ _ _ h => h) (Or.inl ⟨by rfl, ?_⟩) (by assumption) ?_
                        rotate_left
                        · (intro w hSw; (try dsimp only at hSw); go_simp; try with_reducible rfl)
                        try simp only [List.setIfInBounds_toArray, List.set_cons_zero, List.set_cons_succ]
                        refine take_by 16 131 (v := ?_) rfl rfl (by kernel_rfl) (by kernel_rfl) (by kernel_rfl) (fun _ _ _ h => h) (Or.inl ⟨by rfl, ?_⟩) (by assumption) ?_
                        rotate_left
                        · (intro w hSw; (try dsimp only at hSw); go_simp; try with_reducible rfl)
                        try simp only [List.setIfInBounds_toArray, List.set_cons_zero, List.set_cons_succ]
                        refine wpAnyH_ready (rs := [9]) (by kernel_rfl) (by simp) ?_
                        refine AllReadyH.cons rfl (fun K hK => ?_) AllReadyH.nil
                        go_simp
                        (go_at_call 24; refine (HATS.out _ (by assumption)).mono ?_; rintro e w9 ⟨g9, rfl, hb9, _, hk9⟩; have hSS := HG.out _ _ (by assumption) hk9; have v9 := HCV.out w9 g9 hb9)
                        refine hK.out _ _ (hSS) (fun hHeld => ?_)
                        clear hK K
                        try simp only [Act.put, List.setIfInBounds_toArray, List.set_cons_zero, List.set_cons_succ]
                        refine wpAnyH_ready (rs := [10]) (by kernel_rfl) (by simp) ?_
                        refine AllReadyH.cons rfl (fun K hK => ?_) AllReadyH.nil
                        go_simp
                        refine hK.out _ _ (hSS) (fun hHeld => ?_)
                        clear hK K
                        try simp only [Act.put, List.setIfInBounds_toArray, List.set_cons_zero, List.set_cons_succ]
                        refine take_by 17 132 (v := ?_) rfl rfl (by kernel_rfl) (by kernel_rfl) (by kernel_rfl) (fun _ _ _ h => h) (Or.inl ⟨by rfl, ?_⟩) (by assumption) ?_
                        rotate_left
                        · (intro w hSw; (try dsimp only at hSw); go_simp; try with_reducible rfl)
                        try simp only [List.setIfInBounds_toArray, List.set_cons_zero, List.set_cons_succ]
                        refine take_by 18 133 (v := ?_) rfl rfl (by kernel_rfl) (by kernel_rfl) (by kernel_rfl) (fun _ _ _ h => h) (Or.inl ⟨by rfl, ?_⟩) (by assumption) ?_
                        rotate_left
                        · (intro w hSw; (try dsimp only at hSw); go_simp; try with_reducible rfl)
                        try simp only [List.setIfInBounds_toArray, List.set_cons_zero, List.set_cons_succ]
                        refine take_by 19 19 (v := ?_) rfl rfl (by kernel_rfl) (by kernel_rfl) (by kernel_rfl) (fun _ _ _ h => h) (Or.inl ⟨by rfl, ?_⟩) (by assumption) ?_
                        rotate_left
                        · (intro w hSw; (try dsimp only at hSw); go_simp; try with_reducible rfl)
                        try simp only [List.setIfInBounds_toArray, List.set_cons_zero, List.set_cons_succ]
                        refine wpAnyH_done (by kernel_rfl) ?_ _
                        all_goals
                          have HKX := hx (HK.out.trans0 hSS.2.out)
                          clear hSS
                          go_wp2_with fail
                          go_roundw
                          case rel => exact ⟨j + 1, true, by omega, by go_num, rfl, by
                            simp only [true_iff]
                            intro p hp
                            by_cases hpj : p < j
                            · exact HOO.out.1 (by simp) p hpj
                            · have e : p = j := by omega
                              rw [e, HTY.out, HSL.out]
                              exact HRO.out, HKX.out⟩
                          case measure => simp [intOf] <;> omega
                      · have hss : ((strOf row).toList == (strOf sl2).toList) = false := beq_eq_false_iff_ne.2 (HST.out hrs)
                        have HRS := hx hrs
                        clear hrs HST
                        generalize strOf row = ss at *
                        generalize strOf sl2 = st at *
                        go_upto_region 27 with fail
                        have HG := hx (fun (w3 w4 : World) (h : (w3.cell? ⟨b2, off + j * 2, none⟩ = some (.int .i64 (y : Int)) ∧ w3.cell? ⟨b2, off + j * 2 + 1, none⟩ = some (.slice sa n sc) ∧ (convert 39 9 (.slice sa n sc)).run Try.prog w3 = .ok (.string st) w3) ∧ Hx (Kept [] wr w3)) (hk : Kept [] w3 w4) => (show (w4.cell? ⟨b2, off + j * 2, none⟩ = some (.int .i64 (y : Int)) ∧ w4.cell? ⟨b2, off + j * 2 + 1, none⟩ = some (.slice sa n sc) ∧ (convert 39 9 (.slice sa n sc)).run Try.prog w4 = .ok (.string st) w4) ∧ Hx (Kept [] wr w4) from ⟨⟨kept_cell hk h.1.1, kept_cell hk h.1.2.1, HBW.out w4 (h.2.out.trans0 hk)⟩, hx (h.2.out.trans0 hk)⟩))
                        have HATS := hx (fun (w3 : World) (h : (w3.cell? ⟨b2, off + j * 2, none⟩ = some (.int .i64 (y : Int)) ∧ w3.cell? ⟨b2, off + j * 2 + 1, none⟩ = some (.slice sa n sc) ∧ (convert 39 9 (.slice sa n sc)).run Try.prog w3 = .ok (.string st) w3) ∧ Hx (Kept [] wr w3)) => HATW.out w3 h.2.out)
                        have HS0 := hx (show (wr.drew.cell? ⟨b2, off + j * 2, none⟩ = some (.int .i64 (y : Int)) ∧ wr.drew.cell? ⟨b2, off + j * 2 + 1, none⟩ = some (.slice sa n sc) ∧ (convert 39 9 (.slice sa n sc)).run Try.prog wr.drew = .ok (.string st) wr.drew) ∧ Hx (Kept [] wr wr.drew) from ⟨⟨g1, g2, v2⟩, hx hkd⟩)
                        clear e1 e2 v1 v2 g1 g2 HATW HBW
                        refine wp_region_held_drew (S := (fun w3 => (w3.cell? ⟨b2, off + j * 2, none⟩ = some (.int .i64 (y : Int)) ∧ w3.cell? ⟨b2, off + j * 2 + 1, none⟩ = some (.slice sa n sc) ∧ (convert 39 9 (.slice sa n sc)).run Try.prog w3 = .ok (.string st) w3) ∧ Hx (Kept [] wr w3))) (by kernel_rfl) (HS0.out) (fun hHeld => ?_)
                        refine take_by 0 115 (v := ?_) rfl rfl (by kernel_rfl) (by kernel_rfl) (by kernel_rfl) (fun _ _ _ h => h) (Or.inl ⟨by rfl, ?_⟩) (by assumption) ?_
                        rotate_left
                        · (intro w hSw; (try dsimp only at hSw); go_simp; try with_reducible rfl)
                        try simp only [List.setIfInBounds_toArray, List.set_cons_zero, List.set_cons_succ]
                        refine take_by 1 116 (v := ?_) rfl rfl (by kernel_rfl) (by kernel_rfl) (by kernel_rfl) (fun _ _ _ h => h) (Or.inl ⟨by rfl, ?_⟩) (by assumption) ?_
                        rotate_left
                        · (intro w hSw; (try dsimp only at hSw); go_simp; try with_reducible rfl)
                        try simp only [List.setIfInBounds_toArray, List.set_cons_zero, List.set_cons_succ]
                        refine take_by 2 117 (v := ?_) rfl rfl (by kernel_rfl) (by kernel_rfl) (by kernel_rfl) (fun _ _ _ h => h) (Or.inl ⟨by rfl, ?_⟩) (by assumption) ?_
                        rotate_left
                        · (intro w hSw; (try dsimp only at hSw); go_simp; try with_reducible rfl)
                        try simp only [List.setIfInBounds_toArray, List.set_cons_zero, List.set_cons_succ]
                        refine take_by 3 118 (v := ?_) rfl rfl (by kernel_rfl) (by kernel_rfl) (by kernel_rfl) (fun _ _ _ h => h) (Or.inl ⟨by rfl, ?_⟩) (by assumption) ?_
                        rotate_left
                        · (intro w hSw; (try dsimp only at hSw); go_simp; try with_reducible rfl)
                        try simp only [List.setIfInBounds_toArray, List.set_cons_zero, List.set_cons_succ]
                        refine take_by 4 119 (v := ?_) rfl rfl (by kernel_rfl) (by kernel_rfl) (by kernel_rfl) (fun _ _ _ h => h) (Or.inl ⟨by rfl, ?_⟩) (by assumption) ?_
                        rotate_left
                        · (intro w hSw; (try dsimp only at hSw); go_simp; try with_reducible rfl)
                        try simp only [List.setIfInBounds_toArray, List.set_cons_zero, List.set_cons_succ]
                        refine take_by 5 120 (v := ?_) rfl rfl (by kernel_rfl) (by kernel_rfl) (by kernel_rfl) (fun _ _ _ h => h) (Or.inl ⟨by rfl, ?_⟩) (by assumption) ?_
                        rotate_left
                        · (intro w hSw; (try dsimp only at hSw); go_simp; try with_reducible rfl)
                        try simp only [List.setIfInBounds_toArray, List.set_cons_zero, List.set_cons_succ]
                        refine take_by 6 121 (v := ?_) rfl rfl (by kernel_rfl) (by kernel_rfl) (by kernel_rfl) (fun _ _ _ h => h) (Or.inl ⟨by rfl, ?_⟩) (by assumption) ?_
                        rotate_left
                        · (intro w hSw; (try dsimp only at hSw); go_simp; try with_reducible rfl)
                        try simp only [List.setIfInBounds_toArray, List.set_cons_zero, List.set_cons_succ]
                        refine take_by 7 122 (v := ?_) rfl rfl (by kernel_rfl) (by kernel_rfl) (by kernel_rfl) (fun _ _ _ h => h) (Or.inl ⟨by rfl, ?_⟩) (by assumption) ?_
                        rotate_left
                        · (intro w hSw; (try dsimp only at hSw); go_simp; try with_reducible rfl)
                        try simp only [List.setIfInBounds_toArray, List.set_cons_zero, List.set_cons_succ]
                        refine take_by 8 123 (v := ?_) rfl rfl (by kernel_rfl) (by kernel_rfl) (by kernel_rfl) (fun _ _ _ h => h) (Or.inl ⟨by rfl, ?_⟩) (by assumption) ?_
                        rotate_left
                        · (intro w hSw; (try dsimp only at hSw); go_simp; try with_reducible rfl)
                        try simp only [List.setIfInBounds_toArray, List.set_cons_zero, List.set_cons_succ]
                        refine take_by 11 126 (v := ?_) rfl rfl (by kernel_rfl) (by kernel_rfl) (by kernel_rfl) (fun _ _ _ h => h) (Or.inl ⟨by rfl, ?_⟩) (by assumption) ?_
                        rotate_left
                        · (intro w hSw; (try dsimp only at hSw); go_simp; try with_reducible rfl)
                        try simp only [List.setIfInBounds_toArray, List.set_cons_zero, List.set_cons_succ]
                        refine take_by 12 127 (v := ?_) rfl rfl (by kernel_rfl) (by kernel_rfl) (by kernel_rfl) (fun _ _ _ h => h) (Or.inl ⟨by rfl, ?_⟩) (by assumption) ?_
                        rotate_left
                        · (intro w hSw; (try dsimp only at hSw); go_simp; try with_reducible rfl)
                        try simp only [List.setIfInBounds_toArray, List.set_cons_zero, List.set_cons_succ]
                        refine take_by 13 128 (v := ?_) rfl rfl (by kernel_rfl) (by kernel_rfl) (by kernel_rfl) (fun _ _ _ h => h) (Or.inl ⟨by rfl, ?_⟩) (by assumption) ?_
                        rotate_left
                        · (intro w hSw; (try dsimp only at hSw); go_simp; try with_reducible rfl)
                        try simp only [List.setIfInBounds_toArray, List.set_cons_zero, List.set_cons_succ]
                        refine take_by 14 129 (v := ?_) rfl rfl (by kernel_rfl) (by kernel_rfl) (by kernel_rfl) (fun _ _ _ h => h) (Or.inl ⟨by rfl, ?_⟩) (by assumption) ?_
                        rotate_left
                        · (intro w hSw; (try dsimp only at hSw); go_simp; try with_reducible rfl)
                        try simp only [List.setIfInBounds_toArray, List.set_cons_zero, List.set_cons_succ]
                        refine take_by 15 130 (v := ?_) rfl rfl (by kernel_rfl) (by kernel_rfl) (by kernel_rfl) (fun _ _ _ h => h) (Or.inl ⟨by rfl, ?_⟩) (by assumption) ?_
                        rotate_left
                        · (intro w hSw; (try dsimp only at hSw); go_simp; try with_reducible rfl)
                        try simp only [List.setIfInBounds_toArray, List.set_cons_zero, List.set_cons_succ]
                        refine take_by 16 131 (v := ?_) rfl rfl (by kernel_rfl) (by kernel_rfl) (by kernel_rfl) (fun _ _ _ h => h) (Or.inl ⟨by rfl, ?_⟩) (by assumption) ?_
                        rotate_left
                        · (intro w hSw; (try dsimp only at hSw); go_simp; try with_reducible rfl)
                        try simp only [List.setIfInBounds_toArray, List.set_cons_zero, List.set_cons_succ]
                        refine wpAnyH_ready (rs := [9]) (by kernel_rfl) (by simp) ?_
                        refine AllReadyH.cons rfl (fun K hK => ?_) AllReadyH.nil
                        go_simp
                        (go_at_call 24; refine (HATS.out _ (by assumption)).mono ?_; rintro e w9 ⟨g9, rfl, hb9, _, hk9⟩; have hSS := HG.out _ _ (by assumption) hk9; have v9 := HCV.out w9 g9 hb9)
                        refine hK.out _ _ (hSS) (fun hHeld => ?_)
                        clear hK K
                        try simp only [Act.put, List.setIfInBounds_toArray, List.set_cons_zero, List.set_cons_succ]
                        refine wpAnyH_ready (rs := [10]) (by kernel_rfl) (by simp) ?_
                        refine AllReadyH.cons rfl (fun K hK => ?_) AllReadyH.nil
                        go_simp
                        refine hK.out _ _ (hSS) (fun hHeld => ?_)
                        clear hK K
                        try simp only [Act.put, List.setIfInBounds_toArray, List.set_cons_zero, List.set_cons_succ]
                        refine take_by 17 132 (v := ?_) rfl rfl (by kernel_rfl) (by kernel_rfl) (by kernel_rfl) (fun _ _ _ h => h) (Or.inl ⟨by rfl, ?_⟩) (by assumption) ?_
                        rotate_left
                        · (intro w hSw; (try dsimp only at hSw); go_simp; try with_reducible rfl)
                        try simp only [List.setIfInBounds_toArray, List.set_cons_zero, List.set_cons_succ]
                        refine take_by 18 133 (v := ?_) rfl rfl (by kernel_rfl) (by kernel_rfl) (by kernel_rfl) (fun _ _ _ h => h) (Or.inl ⟨by rfl, ?_⟩) (by assumption) ?_
                        rotate_left
                        · (intro w hSw; (try dsimp only at hSw); go_simp; try with_reducible rfl)
                        try simp only [List.setIfInBounds_toArray, List.set_cons_zero, List.set_cons_succ]
                        refine take_by 19 19 (v := ?_) rfl rfl (by kernel_rfl) (by kernel_rfl) (by kernel_rfl) (fun _ _ _ h => h) (Or.inl ⟨by rfl, ?_⟩) (by assumption) ?_
                        rotate_left
                        · (intro w hSw; (try dsimp only at hSw); go_simp; try with_reducible rfl)
                        try simp only [List.setIfInBounds_toArray, List.set_cons_zero, List.set_cons_succ]
                        refine wpAnyH_done (by kernel_rfl) ?_ _
                        all_goals
                          have HKX := hx (HK.out.trans0 hSS.2.out)
                          clear hSS
                          go_wp2_with fail
                          go_roundw
                          case rel => exact ⟨j + 1, false, by omega, by go_num, rfl, by
                            simp only [Bool.false_eq_true, false_iff]
                            intro h
                            have h2 := h j (by omega)
                            rw [HTY.out, HSL.out, HRO.out] at h2
                            exact HRS.out h2, HKX.out⟩
                          case measure => simp [intOf] <;> omega
                  · obtain rfl : j = i := by omega
                    have HEND := hx (HOO.out.trans HFB.out.symm)
                    have KE := hx (KB.out.trans0 hk)
                    have HBO := hx (show b = o by
                      have h1 := HB.out
                      have h2 := HEND.out
                      cases b <;> cases o <;> simp_all)
                    clear hk HOO
                    rw [← HBO.out]
                    cases b
                    all_goals
                      go_wp2_with fail
                      try go_ret
                      exact ⟨rfl, KE.out⟩
              · have hbf := hb1 hq0
                subst hbf
                have hqn : ((q : Int) != 0) = true := bne_iff_ne.2 (by omega)
                have KE := hx (K4.out.trans0 KA.out)
                clear hb1 hb2 hq0
                go_wp2_with fail
                try go_ret
                exact ⟨rfl, KE.out⟩
            · go_wp2_with fail
              try go_ret
              exact ⟨rfl, K2.out⟩
          · go_wp2_with fail
            try go_ret
            exact ⟨rfl, K2.out⟩
end Go.Proofs.Ytjgnngnknhkpmaa
