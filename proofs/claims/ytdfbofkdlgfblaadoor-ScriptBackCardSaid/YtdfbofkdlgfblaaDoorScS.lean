/- ParseLine of the document. -/
import Derived.Test.YtdfbofkdlgfblaaDoorScR
namespace Go.Proofs.YtdfbofkdlgfblaaDoor
open Go Go.RowKit
theorem rline_x (x : List Int) (w : World) (hl : x.length = 6) (h64 : ∀ n, n ∈ x → in64 n) :
    Calls Tryd.prog 14 #[.agg (ints x).toArray] w fun e w' => e = .returned (lineV (lineL x)) ∧ Kept [] w w' := by
  obtain ⟨k, p, a, b, c, d, rfl⟩ := six hl
  exact rline_any k p a b c d w h64
theorem pline_x (x : List Int) (w : World) (hl : x.length = 6) (h64 : ∀ n, n ∈ x → in64 n) :
    Calls Tryd.prog 13 #[.agg (ints x).toArray] w fun e w' => e = .returned (lineV (lineL x)) ∧ Kept [] w w' := by
  obtain ⟨k, p, a, b, c, d, rfl⟩ := six hl
  exact pline_any k p a b c d w h64
theorem putF_in : ∀ (fs : List UInt8) (ns x : List Int), (∀ n, n ∈ x → in64 n) → (∀ n, n ∈ ns → in64 n) → ∀ n, n ∈ putF x fs ns → in64 n
  | [], ns, x, hx, _ => by simpa [putF] using hx
  | f :: fs, [], x, hx, _ => by simpa [putF] using hx
  | f :: fs, m :: ns, x, hx, hn => by
    rw [putF]
    refine putF_in fs ns _ (fun n h => ?_) (fun n h => hn n (by simp [h]))
    rcases List.mem_or_eq_of_mem_set h with h | rfl
    · exact hx n h
    · exact hn _ (by simp)
theorem actN_in {k : Int} {ns : List Int} (hk : 1 ≤ k ∧ k ≤ 8) (hn : ∀ n, n ∈ ns → in64 n) : ∀ n, n ∈ actN k ns → in64 n := by
  refine putF_in _ _ _ (fun n h => ?_) hn
  unfold base6 at h
  simp only [List.mem_cons, List.not_mem_nil, or_false] at h
  unfold in64
  omega
theorem splitL_len (l : List UInt8) : (splitL l).length ≤ l.length + 1 := by
  induction l with
  | nil => simp [splitL]
  | cons c l ih =>
    unfold splitL
    split
    · simpa using ih
    · cases hs : splitL l with
      | nil => simp
      | cons w r => rw [hs] at ih; simp at ih ⊢; omega
theorem actN_len (k : Int) (ns : List Int) : (actN k ns).length = 6 := by unfold actN; rw [putF_len]; rfl
set_option maxRecDepth 100000 in
set_option maxHeartbeats 12800000 in
theorem rparse_long (l : List UInt8) (w : World) (hl : 200 < l.length) :
    Calls Tryd.prog 16 #[txt l] w fun e w' => e = .returned (resV (refP l)) ∧ Kept [] w w' := by
  have h200 : (200 : Int) < (l.length : Int) := by omega
  have HR := hx (show refP l = none by unfold refP; rw [if_pos hl])
  have HB := hx (Blk.new w (ints (base6 0)) 28)
  have HK := hx ((Kept.refl [] w).alloc (.cells (ints (base6 0)).toArray 28))
  clear hl
  go_enter Tryd.func16, Tryd.ntmps16
  go_wp2_with (refine store_blk rfl 28 (.tmp 2) (.tmp 16) rfl w.heap.size rfl 28 _ (ints (base6 0)) rfl HB.out rfl (infoAct' _ rfl) (ints_one _) ?_; intro w4 hb4 hk4; have HB4 := hx hb4; have HK4 := hx hk4; clear hb4 hk4)
  exact bodyPost_ret (ret_blk2 rfl _ w.heap.size _ _ _ _ rfl rfl HB4.out Tryd.underlying28 rfl (infoAct' _ rfl)) rfl ⟨by rw [HR.out]; rfl, HK.out.trans HK4.out (fun _ h => h) (fun x h => by simp at h; subst h; exact .inr (Nat.le_refl _))⟩
set_option maxRecDepth 100000 in
set_option maxHeartbeats 12800000 in
theorem rparse_short (l : List UInt8) (w : World) (hl : ¬ 200 < l.length) :
    Calls Tryd.prog 16 #[txt l] w fun e w' => e = .returned (resV (refP l)) ∧ Kept [] w w' := by
  have h200 : ¬ (200 : Int) < (l.length : Int) := by omega
  obtain ⟨w0, ws, hsp⟩ : ∃ w0 ws, splitL l = w0 :: ws := by
    cases h : splitL l with
    | nil => exact absurd h (splitL_ne l)
    | cons a b => exact ⟨a, b, rfl⟩
  have HR := hx (show refP l = match readAll ws with | none => none | some ns => tryK l ns 8 1 by unfold refP; rw [if_neg hl, hsp]; rfl)
  have HC := hx (fun w1 => cut_any l w1 (by omega))
  have hws : ws.length ≤ 200 := by have h := splitL_len l; rw [hsp, List.length_cons] at h; omega
  rw [hsp] at HC
  clear hl hsp
  go_enter Tryd.func16, Tryd.ntmps16
  go_upto_region 5 with (go_at_call 32; refine (HC.out _).mono ?_; rintro e w1 ⟨v, rfl, ho, hk⟩; obtain ⟨g, cap, cur, rfl, hg, hB, htk, _⟩ := own_blk1 ho (by simp); have HK1 := hx (((Kept.refl [] w).alloc (.cells (ints (base6 0)).toArray 28)).trans0 hk); have HA0 := hx (hk.blk (Blk.new w (ints (base6 0)) 28) (by simp)); have HB := hx hB; have HTK := hx htk; clear ho hk hg hB htk)
  clear HC
  simp only [List.length_cons] at *
  generalize hn : ws.length = n at *
  have HN := hx hn
  clear hn
  go_wp2_with fail
  go_loopw [5, 6] (fun uv iv wr => ∃ (u : Value) (i : Nat) (ns : List Int), 1 ≤ i ∧ i ≤ n + 1 ∧ uv = u ∧ iv = .int .i64 (i : Int) ∧ NmI ws (i - 1) ns ∧ wr.ownsRow w1.heap.size 3 1 u ns.length (ints ns) ∧ Kept [] w1 wr) (fun _ iv _ => n + 1 - (intOf iv).toNat)
  case atStart => exact ⟨_, 1, [], Nat.le_refl _, by omega, rfl, rfl, ⟨rfl, rfl, Nat.zero_le _⟩, World.ownsRow_nil _ _ _ _, Kept.refl _ _⟩
  case round =>
    obtain ⟨u, i, ns, h1, hi, rfl, rfl, hn, ho, hk⟩ := hrel
    have HNI := hx hn
    have HNL := hx hn.2
    have HO := hx ho
    have HK := hx hk
    have HI := hx (And.intro h1 hi)
    by_cases hlt : i < n + 1
    · have hil : (i : Int) < (n : Int) + 1 := by omega
      obtain ⟨x, hxx⟩ : ∃ x, ws[i - 1]? = some x := ⟨_, List.getElem?_eq_getElem (by have := HN.out; omega)⟩
      have hxc : (w0 :: ws)[i]? = some x := by
        rw [show i = (i - 1) + 1 by omega, List.getElem?_cons_succ]
        exact hxx
      have hcl : wr.cell? ⟨g, i, none⟩ = some (txt x) := by
        apply (HK.out.blk HB.out (by simp)).cell
        have h2 := txts_get hxc
        rw [← HTK.out, List.getElem?_take_of_lt hlt] at h2
        exact h2
      have HRD := hx (rread_any x wr)
      rw [← read_eq] at HRD
      have HLT := hx hlt
      have HX := hx hxx
      have hi200 : i ≤ 200 := by omega
      have HI2 := hx hi200
      clear h1 hi hn ho hk hlt hxx hxc
      by_cases hok : (progR x).2 = true
      · have HNX := hx (HNI.out.next HX.out hok)
        rw [hok] at HRD
        go_wp2_with (first
          | (go_at_call 12; refine HRD.out.mono ?_; rintro e w2 ⟨rfl, hk2⟩; have HK2 := hx (HK.out.trans0 hk2); have HO2 := hx (own_kept0 HO.out hk2); clear hk2)
          | (at_builtin; refine wpList_app rfl (.tmp 36) (.tmp 38) 65 rfl w1.heap.size 3 (.int .i64 0) 1 8 infoI Tryd.underlying65 rfl (by omega) u5 ns.length (ints ns) rfl (World.ownsRow.alloc HO2.out _) (some ⟨_, 0, none⟩) 1 1 [.int .i64 (progR x).1] rfl rfl (by simp) (by omega) (newsB (Blk.new _ [.int .i64 (progR x).1] 3)) (by intro v hv; simp at hv; subst hv; rfl) (by have h1 := HNL.out.1; have h2 := HI2.out; simp [maxLen]; omega) (by have h1 := HNL.out.1; have h2 := HI2.out; omega) (by have h1 := HK2.out.size; simp; omega) ?_; intro u2 w8 ho8 hg8; have HO8 := hx ho8; have HK8 := hx ((HK2.out.alloc _).grown hg8 (fun q hq => .inr (HO2.out.lt q hq).1)); clear ho8 hg8))
        go_roundw
        case rel =>
          have hh := HI.out
          refine ⟨u2, i + 1, ns ++ [(progR x).1], by omega, by have := HLT.out; omega, rfl, by push_cast; rfl, ?_, by rw [ints_snoc, List.length_append]; exact HO8.out, HK8.out⟩
          have h2 := HNX.out
          rwa [show i - 1 + 1 = i + 1 - 1 by omega] at h2
        case measure =>
          simp only [intOf]
          have h := HLT.out
          omega
      · have HNO := hx (HNI.out.bad HX.out hok)
        have hb : (progR x).2 = false := by simpa using hok
        rw [hb] at HRD
        have HRN := hx (show refP l = none by rw [HR.out, HNO.out])
        clear hok
        go_wp2_with (first
          | (go_at_call 12; refine HRD.out.mono ?_; rintro e w2 ⟨rfl, hk2⟩; have HK2 := hx (HK1.out.trans0 (HK.out.trans0 hk2)); have HA2 := hx ((HK.out.trans0 hk2).blk HA0.out (by simp)); clear hk2)
          | (refine store_blk rfl 28 (.tmp 2) (.tmp 35) rfl w.heap.size rfl 28 _ (ints (base6 0)) rfl HA2.out rfl (infoAct' _ rfl) (ints_one _) ?_; intro w4 hb4 hk4; have HB4 := hx hb4; have HK4 := hx hk4; clear hb4 hk4))
        exact bodyPost_ret (ret_blk2 rfl _ w.heap.size _ _ _ _ rfl rfl HB4.out Tryd.underlying28 rfl (infoAct' _ rfl)) rfl ⟨by rw [HRN.out]; rfl, HK2.out.trans HK4.out (fun _ h => h) (fun x h => by simp at h; subst h; exact .inr (Nat.le_refl _))⟩
    · have hil : ¬ (i : Int) < (n : Int) + 1 := by omega
      have hie : i - 1 = ws.length := by have := HN.out; omega
      have hra : readAll ws = some ns := by
        have h2 := hn.1
        rwa [hie, List.take_of_length_le (Nat.le_refl _)] at h2
      have HRS := hx (show refP l = tryK l ns 8 1 by rw [HR.out, hra])
      have HNS := hx (readAll_some hra).2.2
      have HKW := hx (HK1.out.trans0 hk)
      have HAW := hx (hk.blk HA0.out (by simp))
      obtain ⟨a9, c9, hv, hrw⟩ := own_rw ho
      subst hv
      have HRW := hx hrw
      clear h1 hi hn ho hk hlt hie hra hrw HO
      generalize hm : ns.length = m at *
      have HM := hx hm
      clear hm
      obtain ⟨W2, hW2⟩ : ∃ W, W = wr := ⟨_, rfl⟩
      subst hW2
      go_wp2_with fail
      go_loopw [9] (fun kv wx => ∃ k : Int, kv = .int .i64 k ∧ 1 ≤ k ∧ k ≤ 9 ∧ tryK l ns (9 - k).toNat k = tryK l ns 8 1 ∧ Kept [] W2 wx) (fun kv _ => (10 - intOf kv).toNat)
      case atStart => exact ⟨1, rfl, by omega, by omega, rfl, Kept.refl _ _⟩
      case round =>
        obtain ⟨k, rfl, hk1, hk9, ht, hk⟩ := hrel
        have HT := hx ht
        have HK2 := hx hk
        have HKB := hx (And.intro hk1 hk9)
        clear ht hk
        by_cases h8 : k ≤ 8
        · have hte : tryK l ns (9 - k).toNat k = if lineL (actN k ns) = some l then some (actN k ns) else tryK l ns (9 - (k + 1)).toNat (k + 1) := by
            rw [show (9 - k).toNat = (9 - (k + 1)).toNat + 1 by omega]
            rfl
          have HTE := hx hte
          have HAC := hx (act_any k ns a9 c9 wr (HRW.out.kept HK2.out))
          rw [HM.out] at HAC
          have HIN := hx (actN_in (ns := ns) ⟨hk1, h8⟩ HNS.out)
          have HLN := hx (actN_len k ns)
          clear hte
          generalize hx9 : actN k ns = x at *
          have HLI := hx (fun w1 => rline_x x w1 HLN.out HIN.out)
          cases hL : lineL x with
          | none =>
            have HLI2 := hx (fun w1 => by have h := HLI.out w1; rw [hL] at h; exact h : ∀ w1, Calls Tryd.prog 14 #[.agg (ints x).toArray] w1 fun e w' => e = .returned (.tuple #[txt [], .int .i64 320]) ∧ Kept [] w1 w')
            have HNE := hx (show ¬ lineL x = some l by rw [hL]; simp)
            clear hL
            go_wp2_with (first
              | (go_at_call 33; refine HAC.out.mono ?_; rintro e w3 ⟨rfl, hk3⟩; have HK3 := hx (HK2.out.trans0 hk3); clear hk3)
              | (refine store_blk rfl 28 (.tmp 10) (.tmp 46) rfl _ rfl 28 _ (ints x) rfl (Blk.new w3 (ints (base6 0)) 28) (by rw [ints_len, HLN.out]; rfl) (infoAct' _ HLN.out) (ints_one _) ?_; intro w4 hb4 hk4; have HB4 := hx hb4; have HK4 := hx ((HK3.out.alloc _).trans hk4 (ds := []) (fun _ h => h) (fun x h => by simp at h; subst h; exact .inr HK3.out.size)); have HG4 := hx HK3.out.size; clear hb4 hk4)
              | (refine load_blk rfl 28 (.tmp 10) rfl _ rfl 28 _ _ HB4.out Tryd.underlying28 rfl (infoAct' _ HLN.out) ?_)
              | (go_at_call 14; refine (HLI2.out _).mono ?_; rintro e w5 ⟨rfl, hk5⟩; have HK5 := hx (HK4.out.trans0 hk5); have HB5 := hx (hk5.blk HB4.out (by simp)); clear hk5))
            go_roundw
            case rel =>
              have h := HKB.out
              exact ⟨k + 1, rfl, by omega, by omega, by rw [← HT.out, HTE.out, if_neg HNE.out], HK5.out⟩
            case measure =>
              simp only [intOf]
              have h := HKB.out
              omega
          | some s =>
            have HLI2 := hx (fun w1 => by have h := HLI.out w1; rw [hL] at h; exact h : ∀ w1, Calls Tryd.prog 14 #[.agg (ints x).toArray] w1 fun e w' => e = .returned (.tuple #[txt s, .int .i64 0]) ∧ Kept [] w1 w')
            by_cases hsl : s = l
            · subst hsl
              have HRY := hx (show refP s = some x by rw [HRS.out, ← HT.out, HTE.out, if_pos hL])
              clear hL
              go_upto_region 18 with (first
                | (go_at_call 33; refine HAC.out.mono ?_; rintro e w3 ⟨rfl, hk3⟩; have HK3 := hx (HK2.out.trans0 hk3); clear hk3)
                | (refine store_blk rfl 28 (.tmp 10) (.tmp 46) rfl _ rfl 28 _ (ints x) rfl (Blk.new w3 (ints (base6 0)) 28) (by rw [ints_len, HLN.out]; rfl) (infoAct' _ HLN.out) (ints_one _) ?_; intro w4 hb4 hk4; have HB4 := hx hb4; have HK4 := hx ((HK3.out.alloc _).trans hk4 (ds := []) (fun _ h => h) (fun x h => by simp at h; subst h; exact .inr HK3.out.size)); have HG4 := hx HK3.out.size; clear hb4 hk4)
                | (refine load_blk rfl 28 (.tmp 10) rfl _ rfl 28 _ _ HB4.out Tryd.underlying28 rfl (infoAct' _ HLN.out) ?_)
                | (go_at_call 14; refine (HLI2.out _).mono ?_; rintro e w5 ⟨rfl, hk5⟩; have HK5 := hx (HK4.out.trans0 hk5); have HB5 := hx (hk5.blk HB4.out (by simp)); clear hk5))
              have HAE := hx (HK5.out.blk HAW.out (by simp))
              have HKE := hx (HKW.out.trans0 HK5.out)
              generalize w3.heap.size = b3 at *
              go_wp2_with (first
                | (refine load_blk rfl 28 (.tmp 10) rfl b3 rfl 28 _ _ HB5.out Tryd.underlying28 rfl (infoAct' _ HLN.out) ?_)
                | (refine store_blk rfl 28 (.tmp 2) (.tmp 59) rfl w.heap.size rfl 28 _ (ints x) rfl HAE.out (by rw [ints_len, HLN.out]; rfl) (infoAct' _ HLN.out) (ints_one _) ?_; intro w6 hb6 hk6; have HB6 := hx hb6; have HK6 := hx hk6; clear hb6 hk6))
              exact bodyPost_ret (ret_blk2 rfl _ w.heap.size _ _ _ _ rfl rfl HB6.out Tryd.underlying28 rfl (infoAct' _ HLN.out)) rfl ⟨by rw [HRY.out]; rfl, HKE.out.trans HK6.out (fun _ h => h) (fun x h => by simp at h; subst h; exact .inr (Nat.le_refl _))⟩
            · have HNE := hx (show ¬ lineL x = some l by rw [hL]; simpa using hsl)
              have hbe : (s == l) = false := by simpa using hsl
              clear hL hsl
              go_wp2_with (first
                | (go_at_call 33; refine HAC.out.mono ?_; rintro e w3 ⟨rfl, hk3⟩; have HK3 := hx (HK2.out.trans0 hk3); clear hk3)
                | (refine store_blk rfl 28 (.tmp 10) (.tmp 46) rfl _ rfl 28 _ (ints x) rfl (Blk.new w3 (ints (base6 0)) 28) (by rw [ints_len, HLN.out]; rfl) (infoAct' _ HLN.out) (ints_one _) ?_; intro w4 hb4 hk4; have HB4 := hx hb4; have HK4 := hx ((HK3.out.alloc _).trans hk4 (ds := []) (fun _ h => h) (fun x h => by simp at h; subst h; exact .inr HK3.out.size)); have HG4 := hx HK3.out.size; clear hb4 hk4)
                | (refine load_blk rfl 28 (.tmp 10) rfl _ rfl 28 _ _ HB4.out Tryd.underlying28 rfl (infoAct' _ HLN.out) ?_)
                | (go_at_call 14; refine (HLI2.out _).mono ?_; rintro e w5 ⟨rfl, hk5⟩; have HK5 := hx (HK4.out.trans0 hk5); have HB5 := hx (hk5.blk HB4.out (by simp)); clear hk5))
              go_roundw
              case rel =>
                have h := HKB.out
                exact ⟨k + 1, rfl, by omega, by omega, by rw [← HT.out, HTE.out, if_neg HNE.out], HK5.out⟩
              case measure =>
                simp only [intOf]
                have h := HKB.out
                omega
        · have hk : k = 9 := by omega
          subst hk
          have HRN := hx (show refP l = none by rw [HRS.out, ← HT.out]; rfl)
          have HKE := hx (HKW.out.trans0 HK2.out)
          have HAE := hx (HK2.out.blk HAW.out (by simp))
          clear hk1 hk9 h8
          go_wp2_with (refine store_blk rfl 28 (.tmp 2) (.tmp 60) rfl w.heap.size rfl 28 _ (ints (base6 0)) rfl HAE.out rfl (infoAct' _ rfl) (ints_one _) ?_; intro w4 hb4 hk4; have HB4 := hx hb4; have HK4 := hx hk4; clear hb4 hk4)
          exact bodyPost_ret (ret_blk2 rfl _ w.heap.size _ _ _ _ rfl rfl HB4.out Tryd.underlying28 rfl (infoAct' _ rfl)) rfl ⟨by rw [HRN.out]; rfl, HKE.out.trans HK4.out (fun _ h => h) (fun x h => by simp at h; subst h; exact .inr (Nat.le_refl _))⟩
/-- The document's ParseLine. -/
theorem rparse_any (l : List UInt8) (w : World) :
    Calls Tryd.prog 16 #[txt l] w fun e w' => e = .returned (resV (refP l)) ∧ Kept [] w w' := by
  by_cases h : 200 < l.length
  · exact rparse_long l w h
  · exact rparse_short l w h
end Go.Proofs.YtdfbofkdlgfblaaDoor
