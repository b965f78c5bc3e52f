/- Print of the program. -/
import Derived.Test.YtdfbofkdlgfblaaDoorScZ
import Derived.Test.YtdfbofkdlgfblaaDoorScT
namespace Go.Proofs.YtdfbofkdlgfblaaDoor
open Go Go.RowKit
theorem headN_in {ses tok seed del ahe siz age mos rat bur : Int} (h : in64 ses ∧ in64 tok ∧ in64 seed ∧ in64 del ∧ in64 ahe ∧ in64 siz ∧ in64 age ∧ in64 mos ∧ in64 rat ∧ in64 bur) (i : Nat) : ∀ n, n ∈ headN ses tok seed del ahe siz age mos rat bur i → in64 n := by
  obtain ⟨h0, h1, h2, h3, h4, h5, h6, h7, h8, h9⟩ := h
  intro n hn
  unfold headN at hn
  repeat' split at hn
  all_goals
    simp only [List.mem_cons, List.not_mem_nil, or_false] at hn
    rcases hn with rfl | rfl | rfl <;> assumption
set_option maxRecDepth 100000 in
set_option maxHeartbeats 12800000 in
theorem pprint_any (ses tok seed loc del ahe siz age mos rat bur : Int) (a : Option Addr) (c : Nat) (xs : List (List Int)) (w : World) (ha : AcR w a xs)
    (h0 : in64 ses) (h1 : in64 tok) (h2 : in64 seed) (h4 : in64 del) (h5 : in64 ahe) (h6 : in64 siz) (h7 : in64 age) (h8 : in64 mos) (h9 : in64 rat) (h10 : in64 bur) (hs1 : IntKind.i64.wrap seed = seed) (hs2 : IntKind.i64.wrap ses = ses) (hs3 : IntKind.i64.wrap tok = tok) :
    Calls Tryd.prog 17 #[.agg #[.int .u32 ses, .int .u32 tok, .int .u32 seed, .int .i64 loc, .int .i64 del, .int .i64 ahe, .int .i64 siz, .int .i64 age, .int .i64 mos, .int .i64 rat, .int .i64 bur, .slice a xs.length c]] w fun e w' => e = .returned (.tuple #[txt (printO loc (headT ses tok seed del ahe siz age mos rat bur) xs).1, .int .i64 (printO loc (headT ses tok seed del ahe siz age mos rat bur) xs).2]) ∧ Kept [] w w' := by
  have HA := hx ha
  have HCF := hx (fun w1 => config_any ses tok seed loc del ahe siz age mos rat bur w1 hs1 hs2 hs3)
  generalize hn : xs.length = n at *
  have HN := hx hn
  clear hn ha hs1 hs2 hs3
  by_cases hl : loc = 0
  · subst hl
    by_cases hbig : 4096 < n
    · have hbi : (4096 : Int) < (n : Int) := by omega
      have HP := hx (show printO 0 (headT ses tok seed del ahe siz age mos rat bur) xs = ([], 2) by unfold printO; rw [if_neg (by simp), if_pos (by rw [HN.out]; exact hbig)])
      clear hbig h0 h1 h2 h4 h5 h6 h7 h8 h9 h10
      go_enter Tryd.func17, Tryd.ntmps17
      go_wp2_with fail
      go_ret2
      exact ⟨by rw [HP.out]; rfl, (Kept.refl _ _).alloc _⟩
    · have hbi : ¬ (4096 : Int) < (n : Int) := by omega
      go_enter Tryd.func17, Tryd.ntmps17
      go_upto_region 6 with fail
      have HLL := hx (fun i => headL_len h0 h1 h2 h4 h5 h6 h7 h8 h9 h10 i)
      have HPR := hx (show printO 0 (headT ses tok seed del ahe siz age mos rat bur) xs = printS (actsT (headT ses tok seed del ahe siz age mos rat bur) xs) by unfold printO; rw [if_neg (by simp), if_neg (by rw [HN.out]; exact hbig)])
      have HB0 := hx ((Blk.new w [.int .u32 ses, .int .u32 tok, .int .u32 seed, .int .i64 0, .int .i64 del, .int .i64 ahe, .int .i64 siz, .int .i64 age, .int .i64 mos, .int .i64 rat, .int .i64 bur, .slice a n c] 46).alloc (.cells #[.pointer none, .slice none 0 0] 81))
      have HBL := hx (show Bl (w.heap.size + 1) [] _ from by simpa using Bl.new (w.alloc (.cells #[.int .u32 ses, .int .u32 tok, .int .u32 seed, .int .i64 0, .int .i64 del, .int .i64 ahe, .int .i64 siz, .int .i64 age, .int .i64 mos, .int .i64 rat, .int .i64 bur, .slice a n c] 46)))
      have HK0 := hx (((Kept.refl [] w).alloc (.cells #[.int .u32 ses, .int .u32 tok, .int .u32 seed, .int .i64 0, .int .i64 del, .int .i64 ahe, .int .i64 siz, .int .i64 age, .int .i64 mos, .int .i64 rat, .int .i64 bur, .slice a n c] 46)).alloc (.cells #[.pointer none, .slice none 0 0] 81))
      have HIN := hx (And.intro h0 (And.intro h1 (And.intro h2 (And.intro h4 (And.intro h5 (And.intro h6 (And.intro h7 (And.intro h8 (And.intro h9 h10)))))))))
      clear h0 h1 h2 h4 h5 h6 h7 h8 h9 h10
      generalize World.alloc (World.alloc w (.cells #[.int .u32 ses, .int .u32 tok, .int .u32 seed, .int .i64 0, .int .i64 del, .int .i64 ahe, .int .i64 siz, .int .i64 age, .int .i64 mos, .int .i64 rat, .int .i64 bur, .slice a n c] 46)) _ = W at *
      generalize hbw : w.heap.size = b0 at *
      have HBW := hx hbw
      clear hbw
      have HRG := hx (show W.rangeAt b0 0 (cfL ses tok seed 0 del ahe siz age mos rat bur) from fun j v hj => HB0.out.cell (by
        rw [Nat.zero_add]
        have hj11 : j < (cfL ses tok seed 0 del ahe siz age mos rat bur).length := (List.getElem?_eq_some_iff.1 hj).1
        rw [show [.int .u32 ses, .int .u32 tok, .int .u32 seed, .int .i64 0, .int .i64 del, .int .i64 ahe, .int .i64 siz, .int .i64 age, .int .i64 mos, .int .i64 rat, .int .i64 bur, .slice a n c] = cfL ses tok seed 0 del ahe siz age mos rat bur ++ [.slice a n c] from rfl, List.getElem?_append_left hj11]
        exact hj))
      go_wp2_with (first
        | (refine wpList_load_mid rfl 43 (.tmp 20) rfl b0 0 rfl (cfL ses tok seed 0 del ahe siz age mos rat bur) _ HRG.out Tryd.underlying43 rfl (by kernel_rfl) ?_)
        | (go_at_call 34; refine (HCF.out _).mono ?_; rintro e w5 ⟨g, ra, rb, rc, rd, rfl, hg, ha, hb, hc, hd, hk⟩; have HG := hx hg; have HRA := hx ha; have HRB := hx hb; have HRC := hx hc; have HRD := hx hd; have HK5 := hx (HK0.out.trans0 hk); have HB5 := hx (hk.blk HB0.out (by simp)); have HBL5 := hx (HBL.out.kept hk); clear hg ha hb hc hd hk))
      clear HB0 HBL HK0 HRG
      go_loopw [24] (fun iv wr => ∃ i : Nat, i ≤ 4 ∧ iv = .int .i64 (i : Int) ∧ Bl (b0 + 1) (headP (headL ses tok seed del ahe siz age mos rat bur) i) wr ∧ KT w5 wr ∧ Kept [] w wr ∧ Blk wr b0 [.int .u32 ses, .int .u32 tok, .int .u32 seed, .int .i64 0, .int .i64 del, .int .i64 ahe, .int .i64 siz, .int .i64 age, .int .i64 mos, .int .i64 rat, .int .i64 bur, .slice a n c] 46) (fun iv _ => 4 - (intOf iv).toNat)
      case atStart => exact ⟨0, by omega, rfl, HBL5.out, KT.refl _, HK5.out, HB5.out⟩
      case round =>
        obtain ⟨i, hi, rfl, hbl, hkt, hk, hbx⟩ := hrel
        have HBLR := hx hbl
        have HKT := hx hkt
        have HKR := hx hk
        have HBX := hx hbx
        have HPL := hx (headP_len _ HLL.out i)
        by_cases hlt : i < 4
        · have hcs : i = 0 ∨ i = 1 ∨ i = 2 ∨ i = 3 := by omega
          clear hbl hkt hk hbx HBL5 HB5 HK5
          generalize hac : headP (headL ses tok seed del ahe siz age mos rat bur) i = acc at *
          have HAC := hx hac
          have HAL := hx (show acc.length ≤ 500 by have := HPL.out; omega)
          clear hac HPL
          rcases hcs with rfl | rfl | rfl | rfl
          · have hcg := (HKT.out.blk HG.out (by decide) (by decide)).cell (i := 0) rfl
            have HRW := hx (Rw.blk (ns := headN ses tok seed del ahe siz age mos rat bur 0) (HKT.out.blk HRA.out (by decide) (by decide)) rfl)
            have hli : ∀ w7, Rw w7 (some ⟨ra, 0, none⟩) (headN ses tok seed del ahe siz age mos rat bur 0) → Calls Tryd.prog 27 #[txt [103, 97, 109, 101], .slice (some ⟨ra, 0, none⟩) 3 3] w7 fun e w' => e = .returned (txt (headL ses tok seed del ahe siz age mos rat bur 0)) ∧ Kept [] w7 w' := fun w7 (hr : Rw w7 (some ⟨ra, 0, none⟩) (headN ses tok seed del ahe siz age mos rat bur 0)) => line_any [103, 97, 109, 101] _ (some ⟨ra, 0, none⟩) 3 w7 hr (headN_in HIN.out 0) (by decide) (by simp [headN])
            have HLI := hx hli
            clear hli
            have hll := HLL.out 0
            generalize hs : headL ses tok seed del ahe siz age mos rat bur 0 = s at *
            have HS := hx hs
            clear hs
            have HWR := hx (fun w8 (h : Bl (b0 + 1) acc w8) => by have h2 := wr_any (b0 + 1) acc (s ++ [10]) w8 h (by have := HAL.out; simp; omega); rwa [show txt (s ++ [10]) = .string (⟨s.toArray⟩ ++ { data := #[10] }) by rw [show ({ data := #[10] } : ByteArray) = ⟨[10].toArray⟩ from rfl, txt_add]] at h2 : ∀ w8, Bl (b0 + 1) acc w8 → Calls Tryd.prog 35 #[.pointer (some ⟨b0 + 1, 0, none⟩), .string (⟨s.toArray⟩ ++ { data := #[10] })] w8 fun e w' => ∃ v, e = .returned v ∧ Bl (b0 + 1) (acc ++ (s ++ [10])) w' ∧ Below (b0 + 1) w8 w' ∧ KT w8 w')
            go_upto_region 10 with (first
              | (go_at_call 36; refine (pheads_any _).mono ?_; rintro e w6 ⟨g6, rfl, hB6, hk6⟩; have hc6 := hB6.cell (i := 0) rfl; have HK6 := hx hk6; clear hB6 hk6)
              | (go_at_call 27; refine (HLI.out _ (HRW.out.kept HK6.out)).mono ?_; rintro e w7 ⟨rfl, hk7⟩; have HK7 := hx (HK6.out.trans0 hk7); clear hk7 hc6)
              | (go_at_call 35; refine (HWR.out _ (HBLR.out.kept HK7.out)).mono ?_; rintro e w8 ⟨v8, rfl, hb8, hk8, ht8⟩; have HB8 := hx hb8; have HT8 := hx ((HKT.out.trans (KT.ofKept HK7.out)).trans ht8); have HK8 := hx (Kept.below (HKR.out.trans0 HK7.out) hk8 (by have := HBW.out; omega)); have HX8 := hx (below_blk hk8 (HK7.out.blk HBX.out (by simp)) (by omega)); clear hb8 hk8 ht8))
            go_wp2_with fail
            go_roundw
            case rel => exact ⟨1, by omega, rfl, by rw [headP, HS.out, HAC.out]; exact HB8.out, HT8.out, HK8.out, HX8.out⟩
            case measure => simp [intOf]
          · have hcg := (HKT.out.blk HG.out (by decide) (by decide)).cell (i := 1) rfl
            have HRW := hx (Rw.blk (ns := headN ses tok seed del ahe siz age mos rat bur 1) (HKT.out.blk HRB.out (by decide) (by decide)) rfl)
            have hli : ∀ w7, Rw w7 (some ⟨rb, 0, none⟩) (headN ses tok seed del ahe siz age mos rat bur 1) → Calls Tryd.prog 27 #[txt [115, 101, 110, 100], .slice (some ⟨rb, 0, none⟩) 3 3] w7 fun e w' => e = .returned (txt (headL ses tok seed del ahe siz age mos rat bur 1)) ∧ Kept [] w7 w' := fun w7 (hr : Rw w7 (some ⟨rb, 0, none⟩) (headN ses tok seed del ahe siz age mos rat bur 1)) => line_any [115, 101, 110, 100] _ (some ⟨rb, 0, none⟩) 3 w7 hr (headN_in HIN.out 1) (by decide) (by simp [headN])
            have HLI := hx hli
            clear hli
            have hll := HLL.out 1
            generalize hs : headL ses tok seed del ahe siz age mos rat bur 1 = s at *
            have HS := hx hs
            clear hs
            have HWR := hx (fun w8 (h : Bl (b0 + 1) acc w8) => by have h2 := wr_any (b0 + 1) acc (s ++ [10]) w8 h (by have := HAL.out; simp; omega); rwa [show txt (s ++ [10]) = .string (⟨s.toArray⟩ ++ { data := #[10] }) by rw [show ({ data := #[10] } : ByteArray) = ⟨[10].toArray⟩ from rfl, txt_add]] at h2 : ∀ w8, Bl (b0 + 1) acc w8 → Calls Tryd.prog 35 #[.pointer (some ⟨b0 + 1, 0, none⟩), .string (⟨s.toArray⟩ ++ { data := #[10] })] w8 fun e w' => ∃ v, e = .returned v ∧ Bl (b0 + 1) (acc ++ (s ++ [10])) w' ∧ Below (b0 + 1) w8 w' ∧ KT w8 w')
            go_upto_region 10 with (first
              | (go_at_call 36; refine (pheads_any _).mono ?_; rintro e w6 ⟨g6, rfl, hB6, hk6⟩; have hc6 := hB6.cell (i := 1) rfl; have HK6 := hx hk6; clear hB6 hk6)
              | (go_at_call 27; refine (HLI.out _ (HRW.out.kept HK6.out)).mono ?_; rintro e w7 ⟨rfl, hk7⟩; have HK7 := hx (HK6.out.trans0 hk7); clear hk7 hc6)
              | (go_at_call 35; refine (HWR.out _ (HBLR.out.kept HK7.out)).mono ?_; rintro e w8 ⟨v8, rfl, hb8, hk8, ht8⟩; have HB8 := hx hb8; have HT8 := hx ((HKT.out.trans (KT.ofKept HK7.out)).trans ht8); have HK8 := hx (Kept.below (HKR.out.trans0 HK7.out) hk8 (by have := HBW.out; omega)); have HX8 := hx (below_blk hk8 (HK7.out.blk HBX.out (by simp)) (by omega)); clear hb8 hk8 ht8))
            go_wp2_with fail
            go_roundw
            case rel => exact ⟨2, by omega, rfl, by rw [headP, HS.out, HAC.out]; exact HB8.out, HT8.out, HK8.out, HX8.out⟩
            case measure => simp [intOf]
          · have hcg := (HKT.out.blk HG.out (by decide) (by decide)).cell (i := 2) rfl
            have HRW := hx (Rw.blk (ns := headN ses tok seed del ahe siz age mos rat bur 2) (HKT.out.blk HRC.out (by decide) (by decide)) rfl)
            have hli : ∀ w7, Rw w7 (some ⟨rc, 0, none⟩) (headN ses tok seed del ahe siz age mos rat bur 2) → Calls Tryd.prog 27 #[txt [114, 97, 116, 101], .slice (some ⟨rc, 0, none⟩) 2 2] w7 fun e w' => e = .returned (txt (headL ses tok seed del ahe siz age mos rat bur 2)) ∧ Kept [] w7 w' := fun w7 (hr : Rw w7 (some ⟨rc, 0, none⟩) (headN ses tok seed del ahe siz age mos rat bur 2)) => line_any [114, 97, 116, 101] _ (some ⟨rc, 0, none⟩) 2 w7 hr (headN_in HIN.out 2) (by decide) (by simp [headN])
            have HLI := hx hli
            clear hli
            have hll := HLL.out 2
            generalize hs : headL ses tok seed del ahe siz age mos rat bur 2 = s at *
            have HS := hx hs
            clear hs
            have HWR := hx (fun w8 (h : Bl (b0 + 1) acc w8) => by have h2 := wr_any (b0 + 1) acc (s ++ [10]) w8 h (by have := HAL.out; simp; omega); rwa [show txt (s ++ [10]) = .string (⟨s.toArray⟩ ++ { data := #[10] }) by rw [show ({ data := #[10] } : ByteArray) = ⟨[10].toArray⟩ from rfl, txt_add]] at h2 : ∀ w8, Bl (b0 + 1) acc w8 → Calls Tryd.prog 35 #[.pointer (some ⟨b0 + 1, 0, none⟩), .string (⟨s.toArray⟩ ++ { data := #[10] })] w8 fun e w' => ∃ v, e = .returned v ∧ Bl (b0 + 1) (acc ++ (s ++ [10])) w' ∧ Below (b0 + 1) w8 w' ∧ KT w8 w')
            go_upto_region 10 with (first
              | (go_at_call 36; refine (pheads_any _).mono ?_; rintro e w6 ⟨g6, rfl, hB6, hk6⟩; have hc6 := hB6.cell (i := 2) rfl; have HK6 := hx hk6; clear hB6 hk6)
              | (go_at_call 27; refine (HLI.out _ (HRW.out.kept HK6.out)).mono ?_; rintro e w7 ⟨rfl, hk7⟩; have HK7 := hx (HK6.out.trans0 hk7); clear hk7 hc6)
              | (go_at_call 35; refine (HWR.out _ (HBLR.out.kept HK7.out)).mono ?_; rintro e w8 ⟨v8, rfl, hb8, hk8, ht8⟩; have HB8 := hx hb8; have HT8 := hx ((HKT.out.trans (KT.ofKept HK7.out)).trans ht8); have HK8 := hx (Kept.below (HKR.out.trans0 HK7.out) hk8 (by have := HBW.out; omega)); have HX8 := hx (below_blk hk8 (HK7.out.blk HBX.out (by simp)) (by omega)); clear hb8 hk8 ht8))
            go_wp2_with fail
            go_roundw
            case rel => exact ⟨3, by omega, rfl, by rw [headP, HS.out, HAC.out]; exact HB8.out, HT8.out, HK8.out, HX8.out⟩
            case measure => simp [intOf]
          · have hcg := (HKT.out.blk HG.out (by decide) (by decide)).cell (i := 3) rfl
            have HRW := hx (Rw.blk (ns := headN ses tok seed del ahe siz age mos rat bur 3) (HKT.out.blk HRD.out (by decide) (by decide)) rfl)
            have hli : ∀ w7, Rw w7 (some ⟨rd, 0, none⟩) (headN ses tok seed del ahe siz age mos rat bur 3) → Calls Tryd.prog 27 #[txt [109, 101, 101, 116], .slice (some ⟨rd, 0, none⟩) 2 2] w7 fun e w' => e = .returned (txt (headL ses tok seed del ahe siz age mos rat bur 3)) ∧ Kept [] w7 w' := fun w7 (hr : Rw w7 (some ⟨rd, 0, none⟩) (headN ses tok seed del ahe siz age mos rat bur 3)) => line_any [109, 101, 101, 116] _ (some ⟨rd, 0, none⟩) 2 w7 hr (headN_in HIN.out 3) (by decide) (by simp [headN])
            have HLI := hx hli
            clear hli
            have hll := HLL.out 3
            generalize hs : headL ses tok seed del ahe siz age mos rat bur 3 = s at *
            have HS := hx hs
            clear hs
            have HWR := hx (fun w8 (h : Bl (b0 + 1) acc w8) => by have h2 := wr_any (b0 + 1) acc (s ++ [10]) w8 h (by have := HAL.out; simp; omega); rwa [show txt (s ++ [10]) = .string (⟨s.toArray⟩ ++ { data := #[10] }) by rw [show ({ data := #[10] } : ByteArray) = ⟨[10].toArray⟩ from rfl, txt_add]] at h2 : ∀ w8, Bl (b0 + 1) acc w8 → Calls Tryd.prog 35 #[.pointer (some ⟨b0 + 1, 0, none⟩), .string (⟨s.toArray⟩ ++ { data := #[10] })] w8 fun e w' => ∃ v, e = .returned v ∧ Bl (b0 + 1) (acc ++ (s ++ [10])) w' ∧ Below (b0 + 1) w8 w' ∧ KT w8 w')
            go_upto_region 10 with (first
              | (go_at_call 36; refine (pheads_any _).mono ?_; rintro e w6 ⟨g6, rfl, hB6, hk6⟩; have hc6 := hB6.cell (i := 3) rfl; have HK6 := hx hk6; clear hB6 hk6)
              | (go_at_call 27; refine (HLI.out _ (HRW.out.kept HK6.out)).mono ?_; rintro e w7 ⟨rfl, hk7⟩; have HK7 := hx (HK6.out.trans0 hk7); clear hk7 hc6)
              | (go_at_call 35; refine (HWR.out _ (HBLR.out.kept HK7.out)).mono ?_; rintro e w8 ⟨v8, rfl, hb8, hk8, ht8⟩; have HB8 := hx hb8; have HT8 := hx ((HKT.out.trans (KT.ofKept HK7.out)).trans ht8); have HK8 := hx (Kept.below (HKR.out.trans0 HK7.out) hk8 (by have := HBW.out; omega)); have HX8 := hx (below_blk hk8 (HK7.out.blk HBX.out (by simp)) (by omega)); clear hb8 hk8 ht8))
            go_wp2_with fail
            go_roundw
            case rel => exact ⟨4, by omega, rfl, by rw [headP, HS.out, HAC.out]; exact HB8.out, HT8.out, HK8.out, HX8.out⟩
            case measure => simp [intOf]
        · have hie : i = 4 := by omega
          have hil4 : ¬ (i : Int) < 4 := by omega
          rw [hie] at HBLR HPL
          clear hbl hkt hk hbx HBL5 HB5 HK5 hlt hi hie
          have hc11 := HBX.out.cell (i := 11) rfl
          obtain ⟨H, hh⟩ : ∃ H, H = headT ses tok seed del ahe siz age mos rat bur := ⟨_, rfl⟩
          have HH := hx (show headP (headL ses tok seed del ahe siz age mos rat bur) 4 = H from hh.symm)
          have HHL := hx (show H.length ≤ 404 by rw [← HH.out]; have := HPL.out; omega)
          have HPR2 := hx (show printO 0 (headT ses tok seed del ahe siz age mos rat bur) xs = printS (actsT H xs) by rw [hh]; exact HPR.out)
          rw [HH.out] at HBLR
          clear hh HPL HPR
          go_wp2_with fail
          go_loopw [41] (fun iv wx => ∃ (i : Nat) (acc : List UInt8), i ≤ n ∧ iv = .int .i64 (i : Int) ∧ actsT H (xs.take i) = some acc ∧ acc.length ≤ 404 + 106 * i ∧ Bl (b0 + 1) acc wx ∧ Kept [] w wx) (fun iv _ => n - (intOf iv).toNat)
          case atStart => exact ⟨0, H, Nat.zero_le _, rfl, rfl, HHL.out, HBLR.out, HKR.out⟩
          case round =>
            clear HBLR HKR HKT HBX hc11
            obtain ⟨i, acc, hi, rfl, hac, hal, hbl, hk⟩ := hrel
            have HAC := hx hac
            have HAL := hx hal
            have HBL6 := hx hbl
            have HK6 := hx hk
            have HI := hx hi
            obtain ⟨W6, hW6⟩ : ∃ W, W = wr := ⟨_, rfl⟩
            subst hW6
            by_cases hlt : i < n
            · have hil : (i : Int) < (n : Int) := by omega
              obtain ⟨x, hxx⟩ : ∃ x, xs[i]? = some x := ⟨_, List.getElem?_eq_getElem (by have := HN.out; omega)⟩
              obtain ⟨g9, o9, rfl, hg9, hrg⟩ := (HA.out.kept hk).at_ i x hxx
              have HRG := hx hrg
              have HX6 := hx (HA.out.six x (List.mem_of_getElem? hxx))
              have HLI0 := hx (fun w5 => pline_x x w5 HX6.out.1 HX6.out.2)
              have HLT := hx hlt
              have HXX := hx hxx
              have HTK := hx (show xs.take (i + 1) = xs.take i ++ [x] by
                obtain ⟨h1, rfl⟩ := List.getElem?_eq_some_iff.1 hxx
                rw [List.take_succ_eq_append_getElem h1])
              have hi4 : i < 4096 := by omega
              have HI4 := hx hi4
              clear hac hal hbl hk hi hlt hxx hrg hg9
              cases hL : lineL x with
              | none =>
                have hli : ∀ w5, Calls Tryd.prog 13 #[.agg (ints x).toArray] w5 fun e w' => e = .returned (.tuple #[txt [], .int .i64 320]) ∧ Kept [] w5 w' := fun w5 => by have h := HLI0.out w5; rw [hL] at h; exact h
                have HLI := hx hli
                have HNO := hx (show actsT H xs = none by
                  have h2 := actsT_none (xs.take (i + 1)) (xs.drop (i + 1)) H (by rw [HTK.out]; exact actsT_bad HAC.out hL)
                  rwa [List.take_append_drop] at h2)
                clear hL hli HLI0
                go_wp2_with (first
                  | (refine wpList_load_mid rfl 28 (.tmp 43) rfl g9 (o9 + i * 6) rfl (ints x) _ HRG.out Tryd.underlying28 rfl (infoAct' _ HX6.out.1) ?_)
                  | (refine store_blk rfl 28 (.tmp 8) (.tmp 44) rfl _ rfl 28 _ (ints x) rfl (Blk.new W6 (ints (base6 0)) 28) (by rw [ints_len, HX6.out.1]; rfl) (infoAct' _ HX6.out.1) (ints_one _) ?_; intro w4 hb4 hk4; have HB4 := hx hb4; have hk4' : Kept [] W6 w4 := ((Kept.refl [] W6).alloc _).trans hk4 (ds := []) (fun _ h => h) (fun x h => by simp at h; subst h; exact .inr (Nat.le_refl _)); have HK4 := hx (HK6.out.trans0 hk4'); have HBL4 := hx (HBL6.out.kept hk4'); clear hb4 hk4 hk4')
                  | (refine load_blk rfl 28 (.tmp 8) rfl _ rfl 28 _ _ HB4.out Tryd.underlying28 rfl (infoAct' _ HX6.out.1) ?_)
                  | (go_at_call 13; refine (HLI.out _).mono ?_; rintro e w5 ⟨rfl, hk5⟩; have HK5 := hx (HK4.out.trans0 hk5); have HBL5 := hx (HBL4.out.kept hk5); clear hk5)
                  | (go_at_call 35; refine (HWR.out _ HBL5.out).mono ?_; rintro e w8 ⟨v8, rfl, hb8, hk8, _⟩; have HB8 := hx hb8; have HK8 := hx (Kept.below HK5.out hk8 (by have := HBW.out; omega)); clear hb8 hk8))
                go_ret2
                exact ⟨by rw [HPR2.out, HNO.out]; rfl, HK5.out⟩
              | some s =>
                have hli : ∀ w5, Calls Tryd.prog 13 #[.agg (ints x).toArray] w5 fun e w' => e = .returned (.tuple #[txt s, .int .i64 0]) ∧ Kept [] w5 w' := fun w5 => by have h := HLI0.out w5; rw [hL] at h; exact h
                have HLI := hx hli
                have hsl := line_small HX6.out.2 hL
                have HSL := hx hsl
                have HAS2 := hx (show actsT H (xs.take (i + 1)) = some (acc ++ (s ++ [10])) by rw [HTK.out]; exact actsT_more HAC.out hL)
                have HWR := hx (fun w8 (h : Bl (b0 + 1) acc w8) => by have h2 := wr_any (b0 + 1) acc (s ++ [10]) w8 h (by have := HAL.out; have := HI4.out; simp; omega); rwa [show txt (s ++ [10]) = .string (⟨s.toArray⟩ ++ { data := #[10] }) by rw [show ({ data := #[10] } : ByteArray) = ⟨[10].toArray⟩ from rfl, txt_add]] at h2 : ∀ w8, Bl (b0 + 1) acc w8 → Calls Tryd.prog 35 #[.pointer (some ⟨b0 + 1, 0, none⟩), .string (⟨s.toArray⟩ ++ { data := #[10] })] w8 fun e w' => ∃ v, e = .returned v ∧ Bl (b0 + 1) (acc ++ (s ++ [10])) w' ∧ Below (b0 + 1) w8 w' ∧ KT w8 w')
                clear hL hli HLI0
                go_wp2_with (first
                  | (refine wpList_load_mid rfl 28 (.tmp 43) rfl g9 (o9 + i * 6) rfl (ints x) _ HRG.out Tryd.underlying28 rfl (infoAct' _ HX6.out.1) ?_)
                  | (refine store_blk rfl 28 (.tmp 8) (.tmp 44) rfl _ rfl 28 _ (ints x) rfl (Blk.new W6 (ints (base6 0)) 28) (by rw [ints_len, HX6.out.1]; rfl) (infoAct' _ HX6.out.1) (ints_one _) ?_; intro w4 hb4 hk4; have HB4 := hx hb4; have hk4' : Kept [] W6 w4 := ((Kept.refl [] W6).alloc _).trans hk4 (ds := []) (fun _ h => h) (fun x h => by simp at h; subst h; exact .inr (Nat.le_refl _)); have HK4 := hx (HK6.out.trans0 hk4'); have HBL4 := hx (HBL6.out.kept hk4'); clear hb4 hk4 hk4')
                  | (refine load_blk rfl 28 (.tmp 8) rfl _ rfl 28 _ _ HB4.out Tryd.underlying28 rfl (infoAct' _ HX6.out.1) ?_)
                  | (go_at_call 13; refine (HLI.out _).mono ?_; rintro e w5 ⟨rfl, hk5⟩; have HK5 := hx (HK4.out.trans0 hk5); have HBL5 := hx (HBL4.out.kept hk5); clear hk5)
                  | (go_at_call 35; refine (HWR.out _ HBL5.out).mono ?_; rintro e w8 ⟨v8, rfl, hb8, hk8, _⟩; have HB8 := hx hb8; have HK8 := hx (Kept.below HK5.out hk8 (by have := HBW.out; omega)); clear hb8 hk8))
                go_roundw
                case rel => exact ⟨i + 1, _, HLT.out, by push_cast; rfl, HAS2.out, by have h1 := HSL.out; have h2 := HAL.out; simp; omega, HB8.out, HK8.out⟩
                case measure =>
                  simp only [intOf]
                  have h := HLT.out
                  omega
            · have hil : ¬ (i : Int) < (n : Int) := by omega
              have HAE := hx (show actsT H xs = some acc by
                have h1 := hac
                rwa [List.take_of_length_le (by have := HN.out; omega)] at h1)
              have HP2 := hx (HPR2.out.trans (by rw [HAE.out]; rfl : _ = if 65536 < acc.length then (([] : List UInt8), (2 : Int)) else (acc, 0)))
              clear hac hal hbl hk hi hlt
              by_cases hbg : 65536 < acc.length
              · have hbgi : (65536 : Int) < (acc.length : Int) := by omega
                have HP3 := hx (HP2.out.trans (if_pos hbg))
                clear hbg
                go_wp2_with (go_at_call 37; refine (len_any (b0 + 1) acc _ HBL6.out).mono ?_; rintro e w9 ⟨rfl, rfl⟩)
                go_ret2
                exact ⟨by rw [HP3.out]; rfl, HK6.out⟩
              · have hbgi : ¬ (65536 : Int) < (acc.length : Int) := by omega
                have HP3 := hx (HP2.out.trans (if_neg hbg))
                clear hbg
                go_wp2_with (first
                  | (go_at_call 37; refine (len_any (b0 + 1) acc _ HBL6.out).mono ?_; rintro e w9 ⟨rfl, rfl⟩)
                  | (go_at_call 38; refine (str_any (b0 + 1) acc _ HBL6.out).mono ?_; rintro e w10 ⟨rfl, hk10⟩; have HK10 := hx (Kept.below HK6.out hk10 (by have := HBW.out; omega)); clear hk10))
                go_ret2
                exact ⟨by rw [HP3.out]; rfl, HK10.out⟩
  · have hlb : (loc != 0) = true := by simpa using hl
    have HP := hx (show printO loc (headT ses tok seed del ahe siz age mos rat bur) xs = ([], 320) by unfold printO; rw [if_pos hl])
    clear hl h0 h1 h2 h4 h5 h6 h7 h8 h9 h10
    go_enter Tryd.func17, Tryd.ntmps17
    go_wp2_with fail
    go_ret2
    exact ⟨by rw [HP.out]; rfl, (Kept.refl _ _).alloc _⟩
end Go.Proofs.YtdfbofkdlgfblaaDoor
