/- Shards as they come. The document's Check. The document's Least. -/
import Derived.Test.YtjgnngnknhkpmaaRefE
namespace Go.Proofs.Ytjgnngnknhkpmaa
open Go Go.RowKit
structure Sd where
  x : Int
  a : Option Addr
  c : Nat
  l : List Nat
def s0 : Sd := ⟨0, none, 0, []⟩
def sd (L : List Sd) (i : Nat) : Sd := L.getD i s0
theorem sd_get {L : List Sd} {i : Nat} (h : i < L.length) : sd L i = L[i] := by simp [sd, List.getD_eq_getElem?_getD, h]
theorem sd_some {L : List Sd} {i : Nat} (h : i < L.length) : L[i]? = some (sd L i) := by rw [sd_get h]; exact List.getElem?_eq_getElem h
theorem sd_mem {L : List Sd} {i : Nat} (h : i < L.length) : sd L i ∈ L := by rw [sd_get h]; exact List.getElem_mem h
/-- Shards, where they lie. -/
def Sh (w : World) (a : Option Addr) (L : List Sd) : Prop := ∀ i, i < L.length → ∃ b off, a = some ⟨b, off, none⟩ ∧ w.cell? ⟨b, off + i * 2, none⟩ = some (.int .i64 (sd L i).x) ∧
  w.cell? ⟨b, off + i * 2 + 1, none⟩ = some (.slice (sd L i).a (sd L i).l.length (sd L i).c) ∧ Bn w (sd L i).a (sd L i).l
theorem Sh.kept {w w2 : World} {a : Option Addr} {L : List Sd} (h : Sh w a L) (hk : Kept [] w w2) : Sh w2 a L := fun i hi => by
  obtain ⟨b, off, h1, h2, h3, h4⟩ := h i hi
  exact ⟨b, off, h1, kept_cell hk h2, kept_cell hk h3, h4.kept hk⟩
/-- The first i rows. -/
def byn (L : List Sd) (i : Nat) : List (List Nat) := (List.range i).map fun q => (sd L q).l
theorem byn_len (L : List Sd) (i : Nat) : (byn L i).length = i := by simp [byn]
theorem byn_step (L : List Sd) (i : Nat) : byn L (i + 1) = byn L i ++ [(sd L i).l] := by simp [byn, List.range_succ]
/-- The first i numbers. -/
def xsn (L : List Sd) (i : Nat) : List Int := (List.range i).map fun q => (sd L q).x
theorem xsn_step (L : List Sd) (i : Nat) : xsn L (i + 1) = xsn L i ++ [(sd L i).x] := by simp [xsn, List.range_succ]
theorem xsn_mem {L : List Sd} {i : Nat} {z : Int} : z ∈ xsn L i ↔ ∃ q, q < i ∧ (sd L q).x = z := by simp [xsn]
def Good (N : Nat) (L : List Sd) : Prop := ∀ i, i < L.length → (0 ≤ (sd L i).x ∧ (sd L i).x < (N : Int)) ∧ (sd L i).x ∉ xsn L i
/-- The error's number. -/
def ChkP (k N : Nat) (L : List Sd) (q : Nat) : Prop :=
  (¬ Good N L ∧ q = 62) ∨ (Good N L ∧ L.length < k ∧ q = 63) ∨ (Good N L ∧ k ≤ L.length ∧ ¬ EqL (byn L L.length) ∧ q = 61) ∨ (Good N L ∧ k ≤ L.length ∧ EqL (byn L L.length) ∧ q = 0)
theorem ChkP.one {k N : Nat} {L : List Sd} {p q : Nat} (h : ChkP k N L p) (g : ChkP k N L q) : p = q := by
  rcases h with ⟨a, rfl⟩ | ⟨a, b, rfl⟩ | ⟨a, b, c, rfl⟩ | ⟨a, b, c, rfl⟩ <;> rcases g with ⟨d, rfl⟩ | ⟨d, e, rfl⟩ | ⟨d, e, f, rfl⟩ | ⟨d, e, f, rfl⟩ <;>
    first
    | rfl
    | exact absurd d a
    | exact absurd a d
    | omega
    | exact absurd c f
    | exact absurd f c
theorem infoBool : (Try.prog.info? 4).map (fun i => (i.zero, i.size, i.bytes)) = some (some (.bool false), 1, 1) := by kernel_rfl
theorem makeBl (n : Nat) (h : n ≤ 1000) (w : World) : (Instr.makeSlice 96 (.int .i64 (n : Int)) (.int .i64 (n : Int))).run Try.prog w = .ok (.slice (some ⟨w.heap.size, 0, none⟩) n n) (w.alloc (.cells (madeCells #[.bool false] n) 4)) := by
  obtain ⟨i0, hi, hz0, hz1, hz2⟩ := info_parts infoBool
  have hr := run_make (P := Try.prog) w 96 4 i0 (.bool false) Try.underlying96 hi hz0 .i64 .i64 n n (by omega) (by omega) (by rw [hz2]; omega) (by omega)
  rw [hz1] at hr
  simp only [Int.toNat_natCast, Nat.mul_one] at hr
  exact hr
def usd (n : Nat) (out : List Int) : List Value := tab n fun i => .bool (decide ((i : Int) ∈ out))
theorem usd_nil (n : Nat) : (madeCells #[.bool false] n).toList = usd n [] := by
  rw [toList_madeCells_one]
  refine tab_eq (by simp) fun i hi => ?_
  rw [List.getElem?_replicate, if_pos hi]
  simp
theorem usd_set (n : Nat) (out : List Int) (c : Nat) (hc : c < n) : (usd n out).set c (.bool true) = usd n (out ++ [(c : Int)]) :=
  tab_set hc (by simp) fun i hi hne => by
    have h : ¬ (i : Int) = (c : Int) := by omega
    simp [h]
theorem usd_at (n : Nat) (out : List Int) (c : Nat) (hc : c < n) : (usd n out)[c]? = some (.bool (decide ((c : Int) ∈ out))) := tab_get hc
set_option maxRecDepth 100000 in
set_option maxHeartbeats 8000000 in
theorem check_any (t g gr k m c2 : Nat) (R : List (List Nat)) (a2 : Option Addr) (L : List Sd) (w : World) (s : Cod w t g gr k m R) (h1 : 1 ≤ k) (hkm : k + m ≤ 255) (hS : Sh w a2 L) (hL : L.length ≤ 1000) :
    Calls Try.prog 37 #[.pointer (some ⟨g, 0, none⟩), .slice a2 L.length c2] w fun e w' => ∃ q : Nat, e = .returned (.int .i64 (q : Int)) ∧ ChkP k (k + m) L q ∧ Kept [] w w' := by
  generalize hPP : (fun (e : Ending) (w' : World) => ∃ q : Nat, e = .returned (.int .i64 (q : Int)) ∧ ChkP k (k + m) L q ∧ Kept [] w w') = PP
  obtain ⟨N, hN⟩ : ∃ N, k + m = N := ⟨_, rfl⟩
  rw [hN] at hPP
  have P62 := hx (fun (h : ¬ Good N L) w' (hk : Kept [] w w') => show PP (.returned (.int .i64 62)) w' by rw [← hPP]; exact ⟨62, rfl, .inl ⟨h, rfl⟩, hk⟩)
  have P63 := hx (fun (h : Good N L) (h2 : L.length < k) w' (hk : Kept [] w w') => show PP (.returned (.int .i64 63)) w' by rw [← hPP]; exact ⟨63, rfl, .inr (.inl ⟨h, h2, rfl⟩), hk⟩)
  have PLN := hx (fun (h : Good N L) (h2 : k ≤ L.length) (p q : Nat) w' (hk : Kept [] w w') (hq : EqL (byn L L.length) ∧ p = (rw (byn L L.length) 0).length ∧ q = 0 ∨ ¬ EqL (byn L L.length) ∧ p = 0 ∧ q = 61) => show PP (.returned (.int .i64 (q : Int))) w' by
    rw [← hPP]
    refine ⟨q, rfl, ?_, hk⟩
    rcases hq with ⟨h3, _, h4⟩ | ⟨h3, _, h4⟩
    · exact .inr (.inr (.inr ⟨h, h2, h3, h4⟩))
    · exact .inr (.inr (.inl ⟨h, h2, h3, h4⟩)))
  have hNi : (k : Int) + (m : Int) = (N : Int) := by omega
  have HN := hx hN
  have hN2 : (N : Int) ≤ 255 := by omega
  have hN0 : N ≤ 255 := by omega
  have hki : (1 : Int) ≤ (k : Int) := by omega
  have hki2 : (k : Int) ≤ 255 := by omega
  have HG := hx (show Good N L ↔ ∀ i, i < L.length → (0 ≤ (sd L i).x ∧ (sd L i).x < (N : Int)) ∧ (sd L i).x ∉ xsn L i from Iff.rfl)
  have HS := hx (fun i (hi : i < L.length) => hS i hi)
  have HRS := hx (fun a c w9 (hC : Cs w9 a (byn L L.length)) (h1 : 1 ≤ L.length) => show Calls Try.prog 31 #[.slice a L.length c] w9 (LenP w9 (byn L L.length)) by
    have h := rslen_any a c (byn L L.length) w9 hC (by rw [byn_len]; exact h1) (by rw [byn_len]; exact hL)
    rw [byn_len] at h
    exact h)
  have HBN := hx (fun i => byn_step L i)
  have HBL := hx (fun i => byn_len L i)
  have HXS := hx (fun i => xsn_step L i)
  have HX0 := hx (show xsn L 0 = [] from rfl)
  have HBy0 := hx (show byn L 0 = [] from rfl)
  have hmk := fun w => makeBl N (by omega) w
  have c0 := s.c.cell (i := 0) rfl
  have c1 := s.c.cell (i := 1) rfl
  have hkd : Kept [] w w.drew := (Kept.refl [] w).drew
  have d0 := kept_cell hkd c0
  have d1 := kept_cell hkd c1
  have KW := hx (show Kept [] w (w.alloc (.cells (madeCells #[.bool false] N) 4)).drew from ((Kept.refl [] w).alloc _).drew)
  have BW := hx (show Blk (w.alloc (.cells (madeCells #[.bool false] N) 4)).drew w.heap.size (usd N []) 4 by
    have h := (Blk.new' w (madeCells #[.bool false] N) 4).drew
    rw [usd_nil] at h
    exact h)
  have HG0 := hx (Nat.le_refl w.heap.size)
  have hLi : (L.length : Int) ≤ 1000 := by omega
  clear hPP s hS hL hN hkd
  generalize hn : L.length = n at *
  clear hn
  go_enter Try.func37, Try.ntmps37
  go_upto_region 1 with fail
  go_region
  clear hmk d0 d1
  generalize (w.alloc (.cells (madeCells #[.bool false] N) 4)).drew = W at *
  go_wp2_with fail
  go_loopw [25] (fun iv wr => ∃ i : Nat, i ≤ n ∧ iv = .int .i64 i ∧ Blk wr w.heap.size (usd N (xsn L i)) 4 ∧ (∀ q, q < i → (0 ≤ (sd L q).x ∧ (sd L q).x < (N : Int)) ∧ (sd L q).x ∉ xsn L q) ∧ Kept [] w wr) (fun iv _ => n - (intOf iv).toNat)
  case atStart => exact ⟨0, by omega, rfl, by rw [HX0.out]; exact BW.out, fun q hq => absurd hq (by omega), KW.out⟩
  case round =>
    clear BW KW
    obtain ⟨i, hi, rfl, hb, hall, hk⟩ := hrel
    have HA := hx hall
    have HB := hx hb
    have HK := hx hk
    clear hall hb
    by_cases hlt : i < n
    · have hii : (i : Int) < (n : Int) := by omega
      obtain ⟨b, off, rfl, hc1, hc2, _⟩ := HS.out i hlt
      have e1 := kept_cell hk hc1
      have e2 := kept_cell hk hc2
      clear hc1 hc2 hk
      have HXS2 := hx (HXS.out i)
      have HG2 := hx (fun h : Good N L => (HG.out.1 h) i hlt)
      have HXE := hx (show (sd L i).x = (sd L i).x from rfl)
      generalize hxi : (sd L i).x = xi at *
      have HXI := hx hxi
      clear hxi HXE
      generalize (sd L i).a = sa at *
      generalize (sd L i).c = sc at *
      generalize (sd L i).l.length = sn at *
      have HK1 := hx (HK.out.alloc (.cells #[.int .i64 xi, .slice sa sn sc] 47))
      have BS1 := hx (Blk.new wr [.int .i64 xi, .slice sa sn sc] 47)
      have HB1 := hx (HB.out.alloc (.cells #[.int .i64 xi, .slice sa sn sc] 47))
      clear HB HK
      go_upto_region 5 with fail
      clear e1 e2
      generalize wr.heap.size = sx at *
      generalize wr.alloc (.cells #[.int .i64 xi, .slice sa sn sc] 47) = w1 at *
      have hwN : IntKind.i64.wrap (N : Int) = (N : Int) := by rw [IntKind.wrap_i64]; omega
      have e0 := BS1.out.cell (i := 0) rfl
      have ek := kept_cell HK1.out c0
      have em := kept_cell HK1.out c1
      by_cases hx0 : xi < 0
      · have HNG := hx (show ¬ Good N L from fun h => by have h3 := (HG2.out h).1.1; omega)
        go_quiet (fail)
        have HQ := hx (P62.out HNG.out (w1.drewN nq) (HK1.out.trans0 ((Kept.refl [] w1).drewN nq)))
        go_wp2_with fail
        try go_ret
        exact HQ.out
      · by_cases hxN : xi < (N : Int)
        · obtain ⟨y, rfl⟩ := Int.eq_ofNat_of_zero_le (show 0 ≤ xi by omega)
          have hyN : y < N := by omega
          have hdN : decide ((N : Int) ≤ (y : Int)) = false := decide_eq_false (by omega)
          have es := HB1.out.cell (usd_at N (xsn L i) y hyN)
          by_cases hmem : (y : Int) ∈ xsn L i
          · rw [decide_eq_true hmem] at es
            have HNG := hx (show ¬ Good N L from fun h => (HG2.out h).2 hmem)
            clear hmem
            go_quiet (fail)
            have HQ := hx (P62.out HNG.out (w1.drewN nq) (HK1.out.trans0 ((Kept.refl [] w1).drewN nq)))
            go_wp2_with fail
            try go_ret
            exact HQ.out
          · rw [decide_eq_false hmem] at es
            have HM := hx hmem
            clear hmem
            go_quiet (fail)
            have hbd := HB1.out.drewN nq
            have fr := hbd.free y
            have HB2 := hx (show Blk ((w1.drewN nq).setCell ⟨w.heap.size, y, none⟩ (.bool true)) w.heap.size (usd N (xsn L (i + 1))) 4 by
              rw [HXS2.out, ← usd_set N (xsn L i) y hyN]
              exact hbd.set y _)
            have HK2 := hx (show Kept [] w ((w1.drewN nq).setCell ⟨w.heap.size, y, none⟩ (.bool true)) from (HK1.out.drewN nq).setCell (.inr (Nat.le_refl _)) _)
            have e0n : (w1.drewN nq).cell? ⟨sx, 0, none⟩ = some (.int .i64 (y : Int)) := (BS1.out.drewN nq).cell (i := 0) rfl
            have esn := hbd.cell (usd_at N (xsn L i) y hyN)
            clear hbd
            go_wp2_with fail
            go_roundw
            case rel => exact ⟨i + 1, by omega, by go_num, HB2.out, fun q hq => by
              by_cases hq2 : q < i
              · exact HA.out q hq2
              · have e : q = i := by omega
                rw [e, HXI.out]
                exact ⟨⟨by omega, by omega⟩, HM.out⟩, HK2.out⟩
            case measure => simp [intOf] <;> omega
        · have HNG := hx (show ¬ Good N L from fun h => by have h3 := (HG2.out h).1.2; omega)
          have hdN : decide ((N : Int) ≤ xi) = true := decide_eq_true (by omega)
          go_quiet (fail)
          have HQ := hx (P62.out HNG.out (w1.drewN nq) (HK1.out.trans0 ((Kept.refl [] w1).drewN nq)))
          go_wp2_with fail
          try go_ret
          exact HQ.out
    · obtain rfl : i = n := by omega
      have HGD := hx (HG.out.2 HA.out)
      have ek := kept_cell hk c0
      clear HB
      by_cases hlk : i < k
      · have hlki : (i : Int) < (k : Int) := by omega
        have HQ := hx (P63.out HGD.out hlk wr HK.out)
        clear hk
        go_wp2_with fail
        try go_ret
        exact HQ.out
      · have hlki : ¬ (i : Int) < (k : Int) := by omega
        have hki1 : k ≤ i := by omega
        have Q := hx (fun p q w' hk hq => PLN.out HGD.out hki1 p q w' hk hq)
        have h1i : 1 ≤ i := by omega
        clear hk HA
        go_wp2_with fail
        go_loopw [8, 67] (fun ov jv wy => ∃ (j : Nat) (u : Value), j ≤ i ∧ jv = .int .i64 j ∧ u = ov ∧ Cl w.heap.size w.heap.size wy u (byn L j) ∧ Kept [] w wy) (fun _ jv _ => i - (intOf jv).toNat)
        case atStart => exact ⟨0, _, by omega, rfl, rfl, by rw [HBy0.out]; exact Cl.nil _ _ _, HK.out⟩
        case round =>
          clear HK
          obtain ⟨j, u, hj, rfl, rfl, ho, hk⟩ := hrel
          have HO := hx ho
          have HK := hx hk
          clear ho
          by_cases hlj : j < i
          · have hjj : (j : Int) < (i : Int) := by omega
            obtain ⟨b, off, rfl, hc1, hc2, hbn⟩ := HS.out j hlj
            have e1 := kept_cell hk hc1
            have e2 := kept_cell hk hc2
            have HBR := hx (show Br w.heap.size wr (sd L j).a (sd L j).l from Br.ofBn hbn (Nat.le_refl _) hk)
            have HE := hx (HBN.out j)
            clear hc1 hc2 hk hbn
            generalize (sd L j).x = xj at *
            generalize (sd L j).a = sa at *
            generalize (sd L j).c = sc at *
            generalize (sd L j).l = sl2 at *
            have hka := (Kept.refl [] wr).alloc (.cells #[.int .i64 xj, .slice sa sl2.length sc] 47)
            have HK1 := hx (HK.out.trans0 hka)
            have BS1 := hx (Blk.new wr [.int .i64 xj, .slice sa sl2.length sc] 47)
            have HBR1 := hx (HBR.out.kept hka)
            obtain ⟨sl, hs1, hs2, hs3⟩ := (HO.out.kept hka).rows
            have HS1 := hx hs1
            have HS2 := hx hs2
            have HS3 := hx hs3
            have HSL := hx (show sl.length = j by rw [hs1, HBL.out])
            clear hs1 hs2 hs3 HO hka HBR HK
            go_upto_region 15 with fail
            clear e1 e2
            generalize wr.heap.size = sx at *
            generalize wr.alloc (.cells #[.int .i64 xj, .slice sa sl2.length sc] 47) = w1 at *
            have e0 := BS1.out.cell (i := 1) rfl
            go_wp2_with (at_builtin; refine wpList_app rfl (.tmp 71) (.tmp 74) 22 rfl w.heap.size 39 (.slice none 0 0) 1 24 infoBs Try.underlying22 rfl (by omega) u sl.length sl rfl (World.ownsRow.alloc HS2.out _) (some ⟨_, 0, none⟩) 1 1 [.slice sa sl2.length sc] rfl rfl (by simp) (by omega) (blk_news (Blk.new _ [.slice sa sl2.length sc] 39)) (one_sl _ _ _) (by unfold maxLen; have := HSL.out; omega) (by have := HSL.out; omega) (HK1.out.alloc _).size ?_; intro u2 w8 ho8 hg8; have HK8 := hx ((HK1.out.alloc _).grown hg8 (fun q hq => .inr (HS2.out.lt q hq).1)); have HO8 := hx (Cl.push HS1.out (World.ownsRow.alloc HS2.out _) (fun q hq => by obtain ⟨ai, ci, p, r⟩ := HS3.out q hq; exact ⟨ai, ci, p, r.kept ((Kept.refl [] _).alloc _)⟩) (Nat.le_refl _) (HBR1.out.kept ((Kept.refl [] _).alloc _)) rfl ho8 hg8); clear ho8 hg8 HS2 HS3 HK1)
            go_wp2
            go_roundw
            case rel => exact ⟨j + 1, u2, by omega, by go_num, rfl, by rw [HE.out]; exact HO8.out, HK8.out⟩
            case measure => simp [intOf] <;> omega
          · obtain rfl : j = i := by omega
            obtain ⟨ax, cx, hv, _, hcs⟩ := HO.out.form
            rw [HBL.out] at hv
            subst hv
            have HL := hx (HRS.out ax cx wr hcs h1i)
            clear hcs hk
            go_wp2_with fail
            refine HL.out.mono ?_
            rintro e w2 ⟨p, q, rfl, hq, rfl⟩
            have HQ := hx (Q.out p q wr HK.out hq)
            clear hq
            go_wp2_with fail
            try go_ret
            exact HQ.out
end Go.Proofs.Ytjgnngnknhkpmaa
namespace Go.Proofs.Ytjgnngnknhkpmaa
open Go Go.RowKit
set_option maxRecDepth 100000 in
set_option maxHeartbeats 8000000 in
theorem rcheck_any (k m c2 : Nat) (a2 : Option Addr) (L : List Sd) (w : World) (h1 : 1 ≤ k) (hkm : k + m ≤ 255) (hS : Sh w a2 L) (hL : L.length ≤ 1000) :
    Calls Try.prog 41 #[.int .i64 k, .int .i64 m, .slice a2 L.length c2] w fun e w' => ∃ q : Nat, e = .returned (.int .i64 (q : Int)) ∧ ChkP k (k + m) L q ∧ Kept [] w w' := by
  generalize hPP : (fun (e : Ending) (w' : World) => ∃ q : Nat, e = .returned (.int .i64 (q : Int)) ∧ ChkP k (k + m) L q ∧ Kept [] w w') = PP
  obtain ⟨N, hN⟩ : ∃ N, k + m = N := ⟨_, rfl⟩
  rw [hN] at hPP
  have P62 := hx (fun (h : ¬ Good N L) w' (hk : Kept [] w w') => show PP (.returned (.int .i64 62)) w' by rw [← hPP]; exact ⟨62, rfl, .inl ⟨h, rfl⟩, hk⟩)
  have P63 := hx (fun (h : Good N L) (h2 : L.length < k) w' (hk : Kept [] w w') => show PP (.returned (.int .i64 63)) w' by rw [← hPP]; exact ⟨63, rfl, .inr (.inl ⟨h, h2, rfl⟩), hk⟩)
  have P61 := hx (fun (h : Good N L) (h2 : k ≤ L.length) (h3 : ¬ EqL (byn L L.length)) w' (hk : Kept [] w w') => show PP (.returned (.int .i64 61)) w' by rw [← hPP]; exact ⟨61, rfl, .inr (.inr (.inl ⟨h, h2, h3, rfl⟩)), hk⟩)
  have P0 := hx (fun (h : Good N L) (h2 : k ≤ L.length) (h3 : EqL (byn L L.length)) w' (hk : Kept [] w w') => show PP (.returned (.int .i64 0)) w' by rw [← hPP]; exact ⟨0, rfl, .inr (.inr (.inr ⟨h, h2, h3, rfl⟩)), hk⟩)
  have hNi : (k : Int) + (m : Int) = (N : Int) := by omega
  have hN2 : (N : Int) ≤ 255 := by omega
  have hki : (1 : Int) ≤ (k : Int) := by omega
  have hki2 : (k : Int) ≤ 255 := by omega
  have HG := hx (show Good N L ↔ ∀ i, i < L.length → (0 ≤ (sd L i).x ∧ (sd L i).x < (N : Int)) ∧ (sd L i).x ∉ xsn L i from Iff.rfl)
  have HS := hx (fun i (hi : i < L.length) => hS i hi)
  have HRS := hx (fun a c w9 (hC : Cs w9 a (byn L L.length)) (h1 : 1 ≤ L.length) => show Calls Try.prog 33 #[.slice a L.length c] w9 fun e w' => (EqL (byn L L.length) ∧ e = .returned (.bool true) ∨ ¬ EqL (byn L L.length) ∧ e = .returned (.bool false)) ∧ Kept [] w9 w' by
    have h := rlength_any a c (byn L L.length) w9 hC (by rw [byn_len]; exact h1) (by rw [byn_len]; exact hL)
    rw [byn_len] at h
    exact h)
  have HBN := hx (fun i => byn_step L i)
  have HBL := hx (fun i => byn_len L i)
  have HXM := hx (fun i z => xsn_mem (L := L) (i := i) (z := z))
  have HB0 := hx (show byn L 0 = [] from rfl)
  have hLi : (L.length : Int) ≤ 1000 := by omega
  have H1 := hx h1
  clear hPP hS hL hN hkm h1
  generalize hn : L.length = n at *
  clear hn
  go_enter Try.func41, Try.ntmps41
  go_wp2_with fail
  go_loopw [7, 8] (fun ov iv wr => ∃ (i : Nat) (u : Value), i ≤ n ∧ iv = .int .i64 i ∧ u = ov ∧ Cl w.heap.size w.heap.size wr u (byn L i) ∧ (∀ q, q < i → (0 ≤ (sd L q).x ∧ (sd L q).x < (N : Int)) ∧ (sd L q).x ∉ xsn L q) ∧ Kept [] w wr) (fun _ iv _ => n - (intOf iv).toNat)
  case atStart => exact ⟨0, _, by omega, rfl, rfl, by rw [HB0.out]; exact Cl.nil _ _ _, fun q hq => absurd hq (by omega), Kept.refl _ _⟩
  case round =>
    obtain ⟨i, u, hi, rfl, rfl, ho, hall, hk⟩ := hrel
    have HO := hx ho
    have HK := hx hk
    have HA := hx hall
    clear ho hk hall
    by_cases hlt : i < n
    · have hii : (i : Int) < (n : Int) := by omega
      obtain ⟨b, off, rfl, hc1, hc2, hbn⟩ := HS.out i hlt
      have HC1 := hx hc1
      have HC2 := hx hc2
      have HBB := hx hbn
      clear hc1 hc2 hbn
      generalize hxi : (sd L i).x = xi at *
      have HXI := hx hxi
      clear hxi
      go_wp2_with fail
      go_loopw [9] (fun jv wy => ∃ j : Nat, j ≤ i ∧ jv = .int .i64 j ∧ Cl w.heap.size w.heap.size wy u (byn L i) ∧ (∀ q, q < j → (sd L q).x ≠ xi) ∧ Kept [] w wy) (fun jv _ => i - (intOf jv).toNat)
      case atStart => exact ⟨0, by omega, rfl, HO.out, fun q hq => absurd hq (by omega), HK.out⟩
      case round =>
        clear HO HK
        obtain ⟨j, hj, rfl, ho, hne, hk⟩ := hrel
        have HO := hx ho
        have HK := hx hk
        have HNE := hx hne
        clear ho hne
        by_cases hlj : j < i
        · have hjj : (j : Int) < (i : Int) := by omega
          obtain ⟨b2, off2, hb2, hd1, _⟩ := HS.out j (by omega)
          simp only [Option.some.injEq, Addr.mk.injEq, and_true] at hb2
          obtain ⟨rfl, rfl⟩ := hb2
          have e1 := kept_cell hk HC1.out
          have e2 := kept_cell hk hd1
          have hkd : Kept [] wr wr.drew := (Kept.refl [] wr).drew
          have e3 := kept_cell hkd e1
          have e4 := kept_cell hkd e2
          have HOD := hx (HO.out.kept hkd)
          have HKD := hx (HK.out.trans0 hkd)
          obtain ⟨xj, hxj⟩ : ∃ xj, (sd L j).x = xj := ⟨_, rfl⟩
          have HXJ := hx hxj
          rw [hxj] at e2 e4 hd1
          clear hxj hd1 hk hkd HO HK
          by_cases hq : xj = xi
          · have HQ := hx (P62.out (fun h => ((HG.out.1 h) i hlt).2 ((HXM.out i _).2 ⟨j, hlj, by rw [HXJ.out, HXI.out, hq]⟩)) wr.drew HKD.out)
            have hqb : (xj == xi) = true := beq_iff_eq.2 hq
            clear hq
            go_upto_region 8 with fail
            go_region
            all_goals
              go_wp2_with fail
              try go_ret
              exact HQ.out
          · have HQ := hx hq
            have hqb : (xj == xi) = false := beq_eq_false_iff_ne.2 hq
            clear hq
            go_upto_region 8 with fail
            go_region
            all_goals
              go_wp2_with fail
              go_roundw
              case rel => exact ⟨j + 1, by omega, by go_num, HOD.out, fun q hq => by
                by_cases hq2 : q < j
                · exact HNE.out q hq2
                · have e : q = j := by omega
                  rw [e, HXJ.out]
                  exact HQ.out, HKD.out⟩
              case measure => simp [intOf] <;> omega
        · obtain rfl : j = i := by omega
          have e1 := kept_cell hk HC1.out
          have e2 := kept_cell hk HC2.out
          have HNN := hx (show (sd L j).x ∉ xsn L j from fun h => by
            obtain ⟨q, h3, h4⟩ := (HXM.out j _).1 h
            exact HNE.out q h3 (h4.trans HXI.out))
          clear HNE hk
          by_cases hx0 : xi < 0
          · have HQ := hx (P62.out (fun h => by have h3 := ((HG.out.1 h) j hlt).1.1; rw [HXI.out] at h3; omega) wr HK.out)
            go_wp2_with fail
            try go_ret
            exact HQ.out
          · by_cases hxN : xi < (N : Int)
            · have HXX := hx (show (0 ≤ (sd L j).x ∧ (sd L j).x < (N : Int)) ∧ (sd L j).x ∉ xsn L j from ⟨by rw [HXI.out]; omega, HNN.out⟩)
              obtain ⟨sl, hs1, hs2, hs3⟩ := HO.out.rows
              have HS1 := hx hs1
              have HS2 := hx hs2
              have HS3 := hx hs3
              have HSL := hx (show sl.length = j by rw [hs1, HBL.out])
              have HBR := hx (show Br w.heap.size wr (sd L j).a (sd L j).l from Br.ofBn HBB.out (Nat.le_refl _) HK.out)
              have HE := hx (HBN.out j)
              clear hs1 hs2 hs3 HO HBB
              generalize (sd L j).a = sa at *
              generalize (sd L j).c = sc at *
              generalize (sd L j).l = sl2 at *
              go_wp2_with (at_builtin; refine wpList_app rfl (.tmp 49) (.tmp 55) 22 rfl w.heap.size 39 (.slice none 0 0) 1 24 infoBs Try.underlying22 rfl (by omega) u sl.length sl rfl (World.ownsRow.alloc HS2.out _) (some ⟨_, 0, none⟩) 1 1 [.slice sa sl2.length sc] rfl rfl (by simp) (by omega) (blk_news (Blk.new _ [.slice sa sl2.length sc] 39)) (one_sl _ _ _) (by unfold maxLen; have := HSL.out; omega) (by have := HSL.out; omega) (HK.out.alloc _).size ?_; intro u2 w8 ho8 hg8; have HK8 := hx ((HK.out.alloc _).grown hg8 (fun q hq => .inr (HS2.out.lt q hq).1)); have HO8 := hx (Cl.push HS1.out (World.ownsRow.alloc HS2.out _) (fun q hq => by obtain ⟨ai, ci, p, r⟩ := HS3.out q hq; exact ⟨ai, ci, p, r.kept ((Kept.refl [] _).alloc _)⟩) (Nat.le_refl _) (HBR.out.kept ((Kept.refl [] _).alloc _)) rfl ho8 hg8); clear ho8 hg8 HS2 HS3 HK)
              go_wp2
              go_roundw
              case rel => exact ⟨j + 1, u2, by omega, by go_num, rfl, by rw [HE.out]; exact HO8.out, fun q hq => by
                by_cases hq2 : q < j
                · exact HA.out q hq2
                · have e : q = j := by omega
                  rw [e]
                  exact HXX.out, HK8.out⟩
              case measure => simp [intOf] <;> omega
            · have HQ := hx (P62.out (fun h => by have h3 := ((HG.out.1 h) j hlt).1.2; rw [HXI.out] at h3; omega) wr HK.out)
              go_wp2_with fail
              try go_ret
              exact HQ.out
    · obtain rfl : i = n := by omega
      have HGD := hx (HG.out.2 HA.out)
      obtain ⟨ax, cx, hv, _, hcs⟩ := HO.out.form
      rw [HBL.out] at hv
      subst hv
      by_cases hlk : i < k
      · have hlki : (i : Int) < (k : Int) := by omega
        have HQ := hx (P63.out HGD.out hlk wr HK.out)
        clear hcs
        go_wp2_with fail
        try go_ret
        exact HQ.out
      · have hlki : ¬ (i : Int) < (k : Int) := by omega
        have HL := hx (HRS.out ax cx wr hcs (by have := H1.out; omega))
        have Q1 := hx (fun h w' hk => P61.out HGD.out (by omega) h w' hk)
        have Q0 := hx (fun h w' hk => P0.out HGD.out (by omega) h w' hk)
        clear hcs
        go_wp2_with fail
        refine HL.out.mono ?_
        rintro e w2 ⟨hq, hk2⟩
        have K2 := hx (HK.out.trans0 hk2)
        clear hk2
        rcases hq with ⟨hq, rfl⟩ | ⟨hq, rfl⟩
        · have HQ := hx (Q0.out hq w2 K2.out)
          clear hq
          go_wp2_with fail
          try go_ret
          exact HQ.out
        · have HQ := hx (Q1.out hq w2 K2.out)
          clear hq
          go_wp2_with fail
          try go_ret
          exact HQ.out
end Go.Proofs.Ytjgnngnknhkpmaa
namespace Go.Proofs.Ytjgnngnknhkpmaa
open Go Go.RowKit
theorem own_grown {w w8 : World} {row : Option Nat} {base size : Nat} {e : TypeId} {v : Value} {n : Nat} {xs : List Value} (h : w.ownsRow base e size v n xs) (hg : w.grownBy w8 row) (hne : ∀ g, v.ownBlock = some g → some g ≠ row) : w8.ownsRow base e size v n xs := by
  refine ⟨h.1, ?_⟩
  rcases h.2 with hn | ⟨g, cap, cur, rfl, hb, hgg, rest⟩
  · exact .inl hn
  · refine .inr ⟨g, cap, cur, rfl, hb, ?_, rest⟩
    rw [hg.block g (Array.getElem?_eq_some_iff.1 hgg).1 (hne g rfl)]
    exact hgg
theorem own_grown2 {w w8 : World} {base size base2 size2 : Nat} {e e2 : TypeId} {v v2 : Value} {n n2 : Nat} {xs xs2 : List Value} (h : w.ownsRow base e size v n xs) (h2 : w.ownsRow base2 e2 size2 v2 n2 xs2) (hT : e ≠ e2) (hg : w.grownBy w8 v2.ownBlock) : w8.ownsRow base e size v n xs := by
  refine own_grown h hg fun g hv => ?_
  rcases h.2 with ⟨rfl, _⟩ | ⟨g2, cap, cur, rfl, _, hgg, _⟩
  · simp [Value.ownBlock] at hv
  · simp only [Value.ownBlock, Option.some.injEq] at hv
    subst hv
    have hB : Blk w g2 cur.toList e := hgg
    exact own_ne h2 hB hT
theorem Br.grownT {lo base size : Nat} {e : TypeId} {w w8 : World} {a : Option Addr} {l : List Nat} {v : Value} {n : Nat} {sl : List Value} (h : Br lo w a l) (ho : w.ownsRow base e size v n sl) (hT : 5 ≠ e) (hb : lo ≤ base) (hg : w.grownBy w8 v.ownBlock) : Br lo w8 a l := fun i hi => by
  obtain ⟨b, off, h1, h2, h3⟩ := h i hi
  have h4 := block_lt_of_cell h2
  have hne : some b ≠ v.ownBlock := by
    rcases h3 with h3 | ⟨ys, h3⟩
    · intro e
      have h5 := (ho.lt b e.symm).1
      omega
    · exact own_ne ho h3 hT
  refine ⟨b, off, h1, ?_, ?_⟩
  · rw [World.cell?_of_block (w := w) (hg.block b h4 hne)]
    exact h2
  · rcases h3 with h3 | ⟨ys, h3⟩
    · exact .inl h3
    · exact .inr ⟨ys, grown_blk hg h3 hne⟩
/-- A list of rows, beside which another list grows. -/
theorem Cl.grown {lo base base2 size : Nat} {e : TypeId} {w w8 : World} {v v2 : Value} {ls : List (List Nat)} {n2 : Nat} {xs2 : List Value} (h : Cl lo base w v ls) (ho : w.ownsRow base2 e size v2 n2 xs2) (hT : 5 ≠ e) (hT2 : 39 ≠ e) (hb : lo ≤ base2) (hg : w.grownBy w8 v2.ownBlock) : Cl lo base w8 v ls := by
  obtain ⟨sl, h1, h2, h3⟩ := h.rows
  refine ⟨sl, h1, own_grown2 h2 ho hT2 hg, fun j hj => ?_⟩
  obtain ⟨ai, ci, h4, h5⟩ := h3 j hj
  exact ⟨ai, ci, h4, h5.grownT ho hT hb hg⟩
theorem Il.grown {base base2 size : Nat} {e : TypeId} {w w8 : World} {v v2 : Value} {l : List Nat} {n2 : Nat} {xs2 : List Value} (h : Il base w v l) (ho : w.ownsRow base2 e size v2 n2 xs2) (hT : 3 ≠ e) (hg : w.grownBy w8 v2.ownBlock) : Il base w8 v l := ⟨own_grown2 h.own ho hT hg⟩
/-- Those with the number n, of the first i. -/
def fl (L : List Sd) (n i : Nat) : List Sd := (L.take i).filter fun s => decide (s.x = (n : Int))
theorem fl_step {L : List Sd} {n i : Nat} (hi : i < L.length) : fl L n (i + 1) = if (sd L i).x = (n : Int) then fl L n i ++ [sd L i] else fl L n i := by
  unfold fl
  rw [List.take_add_one, sd_some hi, List.filter_append, Option.toList_some]
  split
  · rename_i h
    simp [h]
  · rename_i h
    simp [h]
def lea (L : List Sd) : Nat → List Sd
  | 0 => []
  | n + 1 => lea L n ++ fl L n L.length
def pls (A : List Sd) : List Nat := A.map fun s => s.x.toNat
def bys (A : List Sd) : List (List Nat) := A.map fun s => s.l
theorem pls_len (A : List Sd) : (pls A).length = A.length := List.length_map _
theorem bys_len (A : List Sd) : (bys A).length = A.length := List.length_map _
theorem pls_push (A : List Sd) (s : Sd) (n : Nat) (h : s.x = (n : Int)) : pls (A ++ [s]) = pls A ++ [n] := by simp [pls, h]
theorem bys_push (A : List Sd) (s : Sd) : bys (A ++ [s]) = bys A ++ [s.l] := by simp [bys]
theorem fl_len1 {N : Nat} {L : List Sd} (hg : Good N L) (n : Nat) : ∀ i, i ≤ L.length → (fl L n i).length ≤ 1 ∧ ((fl L n i).length = 1 → (n : Int) ∈ xsn L i)
  | 0, _ => by simp [fl]
  | i + 1, hi => by
    have ih := fl_len1 hg n i (by omega)
    rw [fl_step (by omega), xsn_step]
    split
    · rename_i h
      have h0 : (fl L n i).length ≠ 1 := fun e => by
        have h2 := ih.2 e
        rw [← h] at h2
        exact (hg i (by omega)).2 h2
      rw [List.length_append, List.length_singleton]
      exact ⟨by omega, fun _ => by rw [List.mem_append, List.mem_singleton]; exact .inr h.symm⟩
    · exact ⟨ih.1, fun e => by rw [List.mem_append]; exact .inl (ih.2 e)⟩
/-- All have been found. -/
theorem lea_count {N : Nat} {L : List Sd} (hg : ∀ s ∈ L, 0 ≤ s.x) : ∀ n, (lea L n).length = L.countP fun s => decide (s.x < (n : Int))
  | 0 => by
    rw [lea, List.length_nil, eq_comm, List.countP_eq_zero]
    intro s hs
    have := hg s hs
    simp
    omega
  | n + 1 => by
    rw [lea, List.length_append, lea_count (N := N) hg n, fl, List.take_length, ← List.countP_eq_length_filter]
    clear hg
    induction L with
    | nil => rfl
    | cons s L ih =>
      simp only [List.countP_cons, decide_eq_true_eq]
      split <;> split <;> split <;> omega
theorem lea_all {N : Nat} {L : List Sd} (hg : Good N L) (hN : N ≤ 255) : (lea L 255).length = L.length := by
  have h0 : ∀ s ∈ L, 0 ≤ s.x ∧ s.x < (N : Int) := fun s hs => by
    obtain ⟨i, hi, rfl⟩ := List.getElem_of_mem hs
    have h := (hg i hi).1
    rw [sd_get hi] at h
    exact h
  rw [lea_count (N := N) fun s hs => (h0 s hs).1, List.countP_eq_length]
  intro s hs
  have := (h0 s hs).2
  simp
  omega
def LeaP (w : World) (k : Nat) (L : List Sd) (e : Ending) (w' : World) : Prop :=
  ∃ a c a' c' n, e = .returned (.tuple #[.slice a k c, .slice a' k c']) ∧ (lea L n).length = k ∧ In w' a (pls (lea L n)) ∧ Cs w' a' (bys (lea L n)) ∧ Kept [] w w'
set_option maxRecDepth 100000 in
set_option maxHeartbeats 8000000 in
theorem least_any (k N c2 : Nat) (a2 : Option Addr) (L : List Sd) (w : World) (h1 : k ≤ L.length) (hN : N ≤ 255) (hS : Sh w a2 L) (hL : L.length ≤ 1000) (hg : Good N L) :
    Calls Try.prog 23 #[.int .i64 k, .slice a2 L.length c2] w (LeaP w k L) := by
  generalize hPP : LeaP w k L = PP
  have HPP := hx hPP
  have HS := hx (fun i (hi : i < L.length) => hS i hi)
  have HF1 := hx (fun n i (hi : i ≤ L.length) => (fl_len1 hg n i hi).1)
  have HFS := hx (fun n i (hi : i < L.length) => fl_step (n := n) hi)
  have HF0 := hx (fun n => show fl L n 0 = [] by simp [fl])
  have HLS := hx (fun n => show lea L (n + 1) = lea L n ++ fl L n L.length from rfl)
  have HL0 := hx (show lea L 0 = [] from rfl)
  have HLA := hx (lea_all hg hN)
  have H1 := hx h1
  have hLi : (L.length : Int) ≤ 1000 := by omega
  have hki : (k : Int) ≤ 1000 := by omega
  clear hPP hS hg h1 hN
  generalize hn : L.length = len at *
  clear hn
  go_enter Try.func23, Try.ntmps23
  go_wp2_with fail
  go_loopw [6, 7, 8] (fun pv bv nv wr => ∃ (n : Nat) (p q : Value), n ≤ 255 ∧ nv = .int .i64 n ∧ p = pv ∧ q = bv ∧ (lea L n).length ≤ k ∧ Il w.heap.size wr p (pls (lea L n)) ∧ Cl w.heap.size w.heap.size wr q (bys (lea L n)) ∧ Kept [] w wr) (fun _ _ nv _ => 255 - (intOf nv).toNat)
  case atStart => exact ⟨0, _, _, by omega, rfl, rfl, rfl, by rw [HL0.out]; exact Nat.zero_le _, by rw [HL0.out]; exact Il.nil _ _, by rw [HL0.out]; exact Cl.nil _ _ _, Kept.refl _ _⟩
  case round =>
    obtain ⟨n, p, q, hn, rfl, rfl, rfl, hle, hp, hq, hk⟩ := hrel
    have HP := hx hp
    have HQ := hx hq
    have HK := hx hk
    have HLE := hx hle
    have HLN := hx (HLS.out n)
    have HFL := hx (HF1.out n len (Nat.le_refl _))
    have HFI1 := hx (fun i (hi : i ≤ len) => HF1.out n i hi)
    have HFN := hx (fun i hi => HFS.out n i hi)
    have HFZ := hx (HF0.out n)
    obtain ⟨ap, cp, hpv, _, hin⟩ := hp.form
    rw [pls_len] at hpv
    obtain ⟨aq, cq, hqv, _, hcs⟩ := hq.form
    rw [bys_len] at hqv
    have HI := hx hin
    have HC := hx hcs
    clear hp hq hk hin hcs
    generalize hA : lea L n = A at *
    have HAE := hx hA
    clear hA
    by_cases hgo : n < 255 ∧ A.length < k
    · obtain ⟨hn2, hak⟩ := hgo
      have hni : (n : Int) < 255 := by omega
      have haki : (A.length : Int) < (k : Int) := by omega
      have HAK := hx hak
      subst hpv
      subst hqv
      go_wp2_with fail
      clear hle hak
      go_loopw [6, 7, 9] (fun pv bv iv wy => ∃ (i : Nat) (p q : Value), i ≤ len ∧ iv = .int .i64 i ∧ p = pv ∧ q = bv ∧ Il w.heap.size wy p (pls (A ++ fl L n i)) ∧ Cl w.heap.size w.heap.size wy q (bys (A ++ fl L n i)) ∧ (A ++ fl L n i).length ≤ 1000 ∧ Kept [] w wy) (fun _ _ iv _ => len - (intOf iv).toNat)
      case atStart => exact ⟨0, _, _, by omega, rfl, rfl, rfl, by rw [HFZ.out, List.append_nil]; exact HP.out, by rw [HFZ.out, List.append_nil]; exact HQ.out, by rw [HFZ.out, List.append_nil]; have := HAK.out; omega, HK.out⟩
      case round =>
        clear HP HQ HK HI HC haki
        obtain ⟨i, p, q, hi, rfl, rfl, rfl, hp, hq, hlen, hk⟩ := hrel
        have HP := hx hp
        have HQ := hx hq
        have HK := hx hk
        have HLEN := hx hlen
        clear hp hq
        by_cases hlt : i < len
        · have hii : (i : Int) < (len : Int) := by omega
          obtain ⟨b, off, rfl, hc1, hc2, hbn⟩ := HS.out i hlt
          have e1 := kept_cell hk hc1
          have e2 := kept_cell hk hc2
          have HBB := hx hbn
          have HFI := HFN.out i hlt
          clear hc1 hbn hk hlen
          by_cases hq : (sd L i).x = (n : Int)
          · rw [if_pos hq] at HFI
            rw [hq] at e1
            have HE1 := hx (show pls (A ++ fl L n (i + 1)) = pls (A ++ fl L n i) ++ [n] by rw [HFI, ← List.append_assoc]; exact pls_push _ _ n hq)
            have HE2 := hx (show bys (A ++ fl L n (i + 1)) = bys (A ++ fl L n i) ++ [(sd L i).l] by rw [HFI, ← List.append_assoc]; exact bys_push _ _)
            have HE3 := hx (show (A ++ fl L n (i + 1)).length ≤ 1000 by rw [List.length_append]; have := HFI1.out (i + 1) (by omega); have := HAK.out; omega)
            clear HFI hq
            have HBR := hx (fun w8 (hk : Kept [] w w8) => show Br w.heap.size w8 (sd L i).a (sd L i).l from Br.ofBn HBB.out (Nat.le_refl _) hk)
            have HC2 := hx hc2
            have hnb : ((n : Int) == (n : Int)) = true := by simp
            generalize (sd L i).x = xi at *
            generalize (sd L i).a = sa at *
            generalize (sd L i).c = sc at *
            generalize (sd L i).l = sl2 at *
            generalize hB : A ++ fl L n i = B at *
            have HL := hx (pls_len B)
            clear HBB hB e2 hc2
            go_upto_region 11 with (at_builtin; refine wpList_app rfl (.tmp 33) (.tmp 35) 43 rfl w.heap.size 3 (.int .i64 0) 1 8 infoInt Try.underlying43 rfl (by omega) p (pls B).length (nts (pls B)) rfl (World.ownsRow.alloc HP.out.own _) (some ⟨_, 0, none⟩) 1 1 [.int .i64 (n : Int)] rfl rfl (by simp) (by omega) (blk_news (Blk.new _ [.int .i64 (n : Int)] 3)) (one_int _) (by unfold maxLen; rw [HL.out]; have := HLEN.out; omega) (by rw [HL.out]; have := HLEN.out; omega) (HK.out.alloc _).size ?_; intro p2 w8 ho8 hg8; have HQ8 := hx ((HQ.out.kept ((Kept.refl [] _).alloc _)).grown (World.ownsRow.alloc HP.out.own _) (by decide) (by decide) (Nat.le_refl _) hg8); have HK8 := hx ((HK.out.alloc _).grown hg8 (fun q hq => .inr (HP.out.own.lt q hq).1)); have HP8 := hx (Il.push ho8); clear ho8 hg8 HP HK HQ)
            have e2 := kept_cell HK8.out HC2.out
            have HBR8 := hx (HBR.out w8 HK8.out)
            obtain ⟨sl, hs1, hs2, hs3⟩ := HQ8.out.rows
            have HS1 := hx hs1
            have HS2 := hx hs2
            have HS3 := hx hs3
            have HSL := hx (show sl.length = B.length by rw [hs1, bys_len])
            clear hs1 hs2 hs3 HQ8 e1
            go_wp2_with (at_builtin; refine wpList_app rfl (.tmp 37) (.tmp 43) 22 rfl w.heap.size 39 (.slice none 0 0) 1 24 infoBs Try.underlying22 rfl (by omega) q sl.length sl rfl (World.ownsRow.alloc HS2.out _) (some ⟨_, 0, none⟩) 1 1 [.slice sa sl2.length sc] rfl rfl (by simp) (by omega) (blk_news (Blk.new _ [.slice sa sl2.length sc] 39)) (one_sl _ _ _) (by unfold maxLen; have := HSL.out; have := HLEN.out; omega) (by have := HSL.out; have := HLEN.out; omega) (HK8.out.alloc _).size ?_; intro q2 w9 ho9 hg9; have HK9 := hx ((HK8.out.alloc _).grown hg9 (fun q hq => .inr (HS2.out.lt q hq).1)); have HQ9 := hx (Cl.push HS1.out (World.ownsRow.alloc HS2.out _) (fun q hq => by obtain ⟨ai, ci, p, r⟩ := HS3.out q hq; exact ⟨ai, ci, p, r.kept ((Kept.refl [] _).alloc _)⟩) (Nat.le_refl _) (HBR8.out.kept ((Kept.refl [] _).alloc _)) rfl ho9 hg9); have HP9 := hx ((HP8.out.kept ((Kept.refl [] _).alloc _)).grown (World.ownsRow.alloc HS2.out _) (by decide) hg9); clear ho9 hg9 HS2 HS3 HK8 HP8)
            go_wp2
            go_roundw
            case rel => exact ⟨i + 1, p2, q2, by omega, by go_num, rfl, rfl, by rw [HE1.out]; exact HP9.out, by rw [HE2.out]; exact HQ9.out, HE3.out, HK9.out⟩
            case measure => simp [intOf] <;> omega
          · rw [if_neg hq] at HFI
            have HE := hx HFI
            generalize (sd L i).x = xi at *
            have hqb : (xi == (n : Int)) = false := beq_eq_false_iff_ne.2 hq
            clear HFI hq
            go_wp2_with fail
            go_roundw
            case rel => exact ⟨i + 1, p, q, by omega, by go_num, rfl, rfl, by rw [HE.out]; exact HP.out, by rw [HE.out]; exact HQ.out, by rw [HE.out]; exact HLEN.out, HK.out⟩
            case measure => simp [intOf] <;> omega
        · obtain rfl : i = len := by omega
          have HL2 := hx (show (lea L (n + 1)).length ≤ k by rw [HLN.out, List.length_append]; have := HFL.out; have := HAK.out; omega)
          rw [← HLN.out] at HP HQ
          clear hk hlen HLEN
          go_wp2_with fail
          go_roundw
          case rel => exact ⟨n + 1, p, q, by omega, by go_num, rfl, rfl, HL2.out, HP.out, HQ.out, HK.out⟩
          case measure => simp [intOf] <;> omega
    · have HEQ : A.length = k := by
        rcases Nat.lt_or_ge n 255 with h | h
        · omega
        · obtain rfl : n = 255 := by omega
          have h2 := HLA.out
          rw [HAE.out] at h2
          have := H1.out
          omega
      rw [HEQ] at hpv hqv
      subst hpv
      subst hqv
      have HR := hx (show PP (.returned (.tuple #[.slice ap k cp, .slice aq k cq])) wr by
        rw [← HPP.out]
        exact ⟨ap, cp, aq, cq, n, rfl, by rw [HAE.out, HEQ], by rw [HAE.out]; exact HI.out, by rw [HAE.out]; exact HC.out, HK.out⟩)
      have HEQ2 := hx HEQ
      clear HEQ
      by_cases hn2 : n < 255
      · have hni : (n : Int) < 255 := by omega
        clear hgo hle
        go_wp2_with fail
        try go_ret2
        exact HR.out
      · have hni : ¬ (n : Int) < 255 := by omega
        clear hgo hle
        go_wp2_with fail
        try go_ret2
        exact HR.out
end Go.Proofs.Ytjgnngnknhkpmaa
