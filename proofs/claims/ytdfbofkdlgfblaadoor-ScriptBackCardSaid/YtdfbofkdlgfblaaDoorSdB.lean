/- Print of the document. -/
import Derived.Test.YtdfbofkdlgfblaaDoorSdA
namespace Go.Proofs.YtdfbofkdlgfblaaDoor
open Go Go.RowKit
theorem rheads_L (ses tok seed loc del ahe siz age mos rat bur : Int) (w : World) (h0 : in64 ses) (h1 : in64 tok) (h2 : in64 seed) (h4 : in64 del) (h5 : in64 ahe) (h6 : in64 siz) (h7 : in64 age) (h8 : in64 mos) (h9 : in64 rat) (h10 : in64 bur) (hs1 : IntKind.i64.wrap seed = seed) (hs2 : IntKind.i64.wrap ses = ses) (hs3 : IntKind.i64.wrap tok = tok) :
    Calls Tryd.prog 39 #[.agg #[.int .u32 ses, .int .u32 tok, .int .u32 seed, .int .i64 loc, .int .i64 del, .int .i64 ahe, .int .i64 siz, .int .i64 age, .int .i64 mos, .int .i64 rat, .int .i64 bur]] w fun e w' => e = .returned (.agg #[txt (headL ses tok seed del ahe siz age mos rat bur 0), txt (headL ses tok seed del ahe siz age mos rat bur 1), txt (headL ses tok seed del ahe siz age mos rat bur 2), txt (headL ses tok seed del ahe siz age mos rat bur 3)]) ∧ Kept [] w w' :=
  rheads_any ses tok seed loc del ahe siz age mos rat bur w h0 h1 h2 h4 h5 h6 h7 h8 h9 h10 hs1 hs2 hs3
set_option maxRecDepth 100000 in
set_option maxHeartbeats 12800000 in
theorem rprint_any (ses tok seed loc del ahe siz age mos rat bur : Int) (a : Option Addr) (c : Nat) (xs : List (List Int)) (w : World) (ha : AcR w a xs)
    (h0 : in64 ses) (h1 : in64 tok) (h2 : in64 seed) (h4 : in64 del) (h5 : in64 ahe) (h6 : in64 siz) (h7 : in64 age) (h8 : in64 mos) (h9 : in64 rat) (h10 : in64 bur) (hs1 : IntKind.i64.wrap seed = seed) (hs2 : IntKind.i64.wrap ses = ses) (hs3 : IntKind.i64.wrap tok = tok) :
    Calls Tryd.prog 18 #[.agg #[.int .u32 ses, .int .u32 tok, .int .u32 seed, .int .i64 loc, .int .i64 del, .int .i64 ahe, .int .i64 siz, .int .i64 age, .int .i64 mos, .int .i64 rat, .int .i64 bur], .slice a xs.length c] w fun e w' => e = .returned (.tuple #[txt (printO loc (headT ses tok seed del ahe siz age mos rat bur) xs).1, .int .i64 (printO loc (headT ses tok seed del ahe siz age mos rat bur) xs).2]) ∧ Kept [] w w' := by
  have HA := hx ha
  have HHD := hx (fun w1 => rheads_L ses tok seed loc del ahe siz age mos rat bur w1 h0 h1 h2 h4 h5 h6 h7 h8 h9 h10 hs1 hs2 hs3)
  generalize hn : xs.length = n at *
  have HN := hx hn
  clear hn ha hs1 hs2 hs3
  by_cases hl : loc = 0
  · subst hl
    by_cases hbig : 4096 < n
    · have hbi : (4096 : Int) < (n : Int) := by omega
      have HP := hx (show printO 0 (headT ses tok seed del ahe siz age mos rat bur) xs = ([], 2) by unfold printO; rw [if_neg (by simp), if_pos (by rw [HN.out]; exact hbig)])
      clear hbig h0 h1 h2 h4 h5 h6 h7 h8 h9 h10
      go_enter Tryd.func18, Tryd.ntmps18
      go_wp2_with fail
      go_ret2
      exact ⟨by rw [HP.out]; rfl, (Kept.refl _ _).alloc _⟩
    · have hbi : ¬ (4096 : Int) < (n : Int) := by omega
      have HLL := hx (fun i => headL_len h0 h1 h2 h4 h5 h6 h7 h8 h9 h10 i)
      have HPR := hx (show printO 0 (headT ses tok seed del ahe siz age mos rat bur) xs = printS (actsT (headT ses tok seed del ahe siz age mos rat bur) xs) by unfold printO; rw [if_neg (by simp), if_neg (by rw [HN.out]; exact hbig)])
      clear h0 h1 h2 h4 h5 h6 h7 h8 h9 h10
      have HB := hx (Blk.new w [.int .u32 ses, .int .u32 tok, .int .u32 seed, .int .i64 0, .int .i64 del, .int .i64 ahe, .int .i64 siz, .int .i64 age, .int .i64 mos, .int .i64 rat, .int .i64 bur] 50)
      go_enter Tryd.func18, Tryd.ntmps18
      go_upto_region 6 with fail
      go_upto_region 7 with (first
        | (refine load_blk rfl 50 (.tmp 2) rfl _ rfl 50 _ _ HB.out Tryd.underlying50 rfl (by kernel_rfl) ?_)
        | (go_at_call 39; refine (HHD.out _).mono ?_; rintro e w1 ⟨rfl, hk⟩; have HK1 := hx (((Kept.refl [] w).alloc (.cells #[.int .u32 ses, .int .u32 tok, .int .u32 seed, .int .i64 0, .int .i64 del, .int .i64 ahe, .int .i64 siz, .int .i64 age, .int .i64 mos, .int .i64 rat, .int .i64 bur] 50)).trans0 hk); clear hk))
      have HB7 := hx (Blk.new w1 [txt (headL ses tok seed del ahe siz age mos rat bur 0), txt (headL ses tok seed del ahe siz age mos rat bur 1), txt (headL ses tok seed del ahe siz age mos rat bur 2), txt (headL ses tok seed del ahe siz age mos rat bur 3)] 91)
      have HK7 := hx (HK1.out.alloc (.cells #[txt (headL ses tok seed del ahe siz age mos rat bur 0), txt (headL ses tok seed del ahe siz age mos rat bur 1), txt (headL ses tok seed del ahe siz age mos rat bur 2), txt (headL ses tok seed del ahe siz age mos rat bur 3)] 91))
      clear HB HK1 HHD
      generalize World.alloc w1 (.cells #[txt (headL ses tok seed del ahe siz age mos rat bur 0), txt (headL ses tok seed del ahe siz age mos rat bur 1), txt (headL ses tok seed del ahe siz age mos rat bur 2), txt (headL ses tok seed del ahe siz age mos rat bur 3)] 91) = W at *
      generalize w1.heap.size = b7 at *
      go_wp2_with fail
      go_loopw [6, 8] (fun sv iv wr => ∃ (i : Nat) (acc : List UInt8), i ≤ 4 ∧ sv = txt acc ∧ iv = .int .i64 (i : Int) ∧ acc = headP (headL ses tok seed del ahe siz age mos rat bur) i ∧ wr = W) (fun _ iv _ => 4 - (intOf iv).toNat)
      case atStart => exact ⟨0, [], by omega, rfl, rfl, rfl, rfl⟩
      case round =>
        obtain ⟨i, acc, hi, rfl, rfl, hac, rfl⟩ := hrel
        have HAC := hx hac
        have hal : acc.length ≤ 404 := by have := headP_len _ HLL.out i; rw [hac]; omega
        have HAL := hx hal
        by_cases hlt : i < 4
        · have hil : (i : Int) < 4 := by omega
          have HI := hx hlt
          have hcl : wr.cell? ⟨b7, i, none⟩ = some (txt (headL ses tok seed del ahe siz age mos rat bur i)) := HB7.out.cell (by
            have hcs : i = 0 ∨ i = 1 ∨ i = 2 ∨ i = 3 := by omega
            rcases hcs with rfl | rfl | rfl | rfl <;> rfl)
          have hll := HLL.out i
          generalize hs : headL ses tok seed del ahe siz age mos rat bur i = s at *
          have HS := hx hs
          clear hs hac hi hlt
          go_wp2_with fail
          go_roundw
          case rel => exact ⟨i + 1, acc ++ (s ++ [10]), HI.out, by rw [show ({ data := #[10] } : ByteArray) = ⟨[10].toArray⟩ from rfl, txt_add, txt_add, List.append_assoc], by push_cast; rfl, by rw [headP, HS.out, HAC.out], trivial⟩
          case measure =>
            simp only [intOf]
            have h := HI.out
            omega
        · have hil : ¬ (i : Int) < 4 := by omega
          have hie : i = 4 := by omega
          rw [hie] at HAC
          obtain ⟨H, hh⟩ : ∃ H, H = headT ses tok seed del ahe siz age mos rat bur := ⟨_, rfl⟩
          have HPR2 := hx (show printO 0 (headT ses tok seed del ahe siz age mos rat bur) xs = printS (actsT H xs) by rw [hh]; exact HPR.out)
          have HAH := hx (show acc = H from HAC.out.trans hh.symm)
          obtain ⟨W6, hW6⟩ : ∃ W, W = wr := ⟨_, rfl⟩
          subst hW6
          clear hac hi hlt hie hh HAC HPR
          go_wp2_with fail
          go_loopw [6, 9] (fun sv jv wx => ∃ (j : Nat) (acc : List UInt8), j ≤ n ∧ sv = txt acc ∧ jv = .int .i64 (j : Int) ∧ actsT H (xs.take j) = some acc ∧ acc.length ≤ 404 + 106 * j ∧ Kept [] w wx) (fun _ jv _ => n - (intOf jv).toNat)
          case atStart => exact ⟨0, acc, Nat.zero_le _, rfl, rfl, by rw [HAH.out]; rfl, HAL.out, HK7.out⟩
          case round =>
            obtain ⟨j, ac, hj, rfl, rfl, hac, hal2, hk⟩ := hrel
            have HAC := hx hac
            have HAL2 := hx hal2
            have HK6 := hx hk
            have HJ := hx hj
            by_cases hlt : j < n
            · have hjl : (j : Int) < (n : Int) := by omega
              obtain ⟨x, hxx⟩ : ∃ x, xs[j]? = some x := ⟨_, List.getElem?_eq_getElem (by have := HN.out; omega)⟩
              obtain ⟨g9, o9, rfl, hg9, hrg⟩ := (HA.out.kept hk).at_ j x hxx
              have HRG := hx hrg
              have HX6 := hx (HA.out.six x (List.mem_of_getElem? hxx))
              have HLI0 := hx (fun w5 => rline_x x w5 HX6.out.1 HX6.out.2)
              have HLT := hx hlt
              have HTK := hx (show xs.take (j + 1) = xs.take j ++ [x] by
                obtain ⟨h1, rfl⟩ := List.getElem?_eq_some_iff.1 hxx
                rw [List.take_succ_eq_append_getElem h1])
              have hj4 : j < 4096 := by omega
              have hacl : ac.length ≤ 500000 := by omega
              clear hac hal2 hk hj hlt hxx hrg hg9
              cases hL : lineL x with
              | none =>
                have hli : ∀ w5, Calls Tryd.prog 14 #[.agg (ints x).toArray] w5 fun e w' => e = .returned (.tuple #[txt [], .int .i64 320]) ∧ Kept [] w5 w' := fun w5 => by have h := HLI0.out w5; rw [hL] at h; exact h
                have HLI := hx hli
                have HNO := hx (show actsT H xs = none by
                  have h2 := actsT_none (xs.take (j + 1)) (xs.drop (j + 1)) H (by rw [HTK.out]; exact actsT_bad HAC.out hL)
                  rwa [List.take_append_drop] at h2)
                clear hL hli HLI0
                go_wp2_with (first
                  | (refine wpList_load_mid rfl 28 (.tmp 39) rfl g9 (o9 + j * 6) rfl (ints x) _ HRG.out Tryd.underlying28 rfl (infoAct' _ HX6.out.1) ?_)
                  | (go_at_call 14; refine (HLI.out _).mono ?_; rintro e w5 ⟨rfl, hk5⟩; have HK5 := hx (HK6.out.trans0 hk5); clear hk5))
                go_ret2
                exact ⟨by rw [HPR2.out, HNO.out]; rfl, HK5.out⟩
              | some s =>
                have hli : ∀ w5, Calls Tryd.prog 14 #[.agg (ints x).toArray] w5 fun e w' => e = .returned (.tuple #[txt s, .int .i64 0]) ∧ Kept [] w5 w' := fun w5 => by have h := HLI0.out w5; rw [hL] at h; exact h
                have HLI := hx hli
                have hsl := line_small HX6.out.2 hL
                have HSL := hx hsl
                have HAS2 := hx (show actsT H (xs.take (j + 1)) = some (ac ++ (s ++ [10])) by rw [HTK.out]; exact actsT_more HAC.out hL)
                clear hL hli HLI0
                go_wp2_with (first
                  | (refine wpList_load_mid rfl 28 (.tmp 39) rfl g9 (o9 + j * 6) rfl (ints x) _ HRG.out Tryd.underlying28 rfl (infoAct' _ HX6.out.1) ?_)
                  | (go_at_call 14; refine (HLI.out _).mono ?_; rintro e w5 ⟨rfl, hk5⟩; have HK5 := hx (HK6.out.trans0 hk5); clear hk5))
                go_roundw
                case rel => exact ⟨j + 1, ac ++ (s ++ [10]), HLT.out, by rw [show ({ data := #[10] } : ByteArray) = ⟨[10].toArray⟩ from rfl, txt_add, txt_add, List.append_assoc], by push_cast; rfl, HAS2.out, by have h1 := HSL.out; have h2 := HAL2.out; simp; omega, HK5.out⟩
                case measure =>
                  simp only [intOf]
                  have h := HLT.out
                  omega
            · have hjl : ¬ (j : Int) < (n : Int) := by omega
              have HAE := hx (show actsT H xs = some ac by
                have h1 := hac
                rwa [List.take_of_length_le (by have := HN.out; omega)] at h1)
              have HP2 := hx (HPR2.out.trans (by rw [HAE.out]; rfl : _ = if 65536 < ac.length then (([] : List UInt8), (2 : Int)) else (ac, 0)))
              clear hac hal2 hk hj hlt
              by_cases hbg : 65536 < ac.length
              · have hbgi : (65536 : Int) < (ac.length : Int) := by omega
                have HP3 := hx (HP2.out.trans (if_pos hbg))
                clear hbg
                go_wp2_with fail
                go_ret2
                exact ⟨by rw [HP3.out]; rfl, HK6.out⟩
              · have hbgi : ¬ (65536 : Int) < (ac.length : Int) := by omega
                have HP3 := hx (HP2.out.trans (if_neg hbg))
                clear hbg
                go_wp2_with fail
                go_ret2
                exact ⟨by rw [HP3.out]; rfl, HK6.out⟩
  · have hlb : (loc != 0) = true := by simpa using hl
    have HP := hx (show printO loc (headT ses tok seed del ahe siz age mos rat bur) xs = ([], 320) by unfold printO; rw [if_pos hl])
    clear hl h0 h1 h2 h4 h5 h6 h7 h8 h9 h10
    go_enter Tryd.func18, Tryd.ntmps18
    go_wp2_with fail
    go_ret2
    exact ⟨by rw [HP.out]; rfl, (Kept.refl _ _).alloc _⟩
end Go.Proofs.YtdfbofkdlgfblaaDoor
