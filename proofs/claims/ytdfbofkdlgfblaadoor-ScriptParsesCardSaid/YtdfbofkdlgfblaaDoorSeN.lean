/- The law ScriptParses. -/
import Derived.Test.YtdfbofkdlgfblaaDoorSeM
import Derived.Test.YtdfbofkdlgfblaaDoorSdC
namespace Go.Proofs.YtdfbofkdlgfblaaDoor
open Go Go.RowKit
/-- What a text's script is, in parts. -/
def oC : Except (Int × Int) PSt → List Value
  | .error _ => zcf
  | .ok s => cfOf s.1
def oX : Except (Int × Int) PSt → List (List Int)
  | .error _ => []
  | .ok s => s.2
def oN : Except (Int × Int) PSt → Int × Int
  | .error e => e
  | .ok _ => (0, 0)
theorem PaQ.parts {o : Except (Int × Int) PSt} {w0 w' : World} {e : Ending} (h : PaQ o w0 e w') : Kept [] w0 w' ∧ ∃ a c, e = .returned (.tuple #[.agg (oC o ++ [Value.slice a (oX o).length c]).toArray, .int .i64 (oN o).1, .int .i64 (oN o).2]) ∧ AcR w' a (oX o) := by
  obtain ⟨hk, h2⟩ := h
  cases o with
  | error e =>
    obtain ⟨n, c⟩ := e
    exact ⟨hk, none, 0, h2, fun i x hx => by simp [oX] at hx, fun x hx => by simp [oX] at hx⟩
  | ok s =>
    obtain ⟨a, c, he, ha⟩ := h2
    exact ⟨hk, a, c, he, ha⟩
theorem RaQ.parts {o : Except (Int × Int) PSt} {w0 w' : World} {e : Ending} (h : RaQ o w0 e w') : Kept [] w0 w' ∧ ∃ a c, e = .returned (.tuple #[.agg (oC o).toArray, Value.slice a (oX o).length c, .int .i64 (oN o).1, .int .i64 (oN o).2]) ∧ AcR w' a (oX o) := by
  obtain ⟨hk, h2⟩ := h
  cases o with
  | error e =>
    obtain ⟨n, c⟩ := e
    exact ⟨hk, none, 0, h2, fun i x hx => by simp [oX] at hx, fun x hx => by simp [oX] at hx⟩
  | ok s =>
    obtain ⟨a, c, he, ha⟩ := h2
    exact ⟨hk, a, c, he, ha⟩
theorem step_ok {s t : PSt} {l : List UInt8} (h : stepP s l = .ok t) (hh : HdOk s.1) (hx : XsOk s.2) : HdOk t.1 ∧ XsOk t.2 := by
  unfold stepP at h
  by_cases h4 : s.1.length < 4
  · rw [if_pos h4] at h
    cases hq : hlL s.1.length l with
    | none => rw [hq] at h; cases h
    | some ns =>
      rw [hq] at h
      simp only [Except.ok.injEq] at h
      subst h
      exact ⟨hh.snoc h4 hq, hx⟩
  · rw [if_neg h4] at h
    cases hq : parseL l with
    | none => rw [hq] at h; cases h
    | some x =>
      rw [hq] at h
      by_cases h40 : 4096 ≤ s.2.length
      · simp [h40] at h
      · simp only [if_neg h40, Except.ok.injEq] at h
        subst h
        exact ⟨hh, hx.snoc (by omega) hq⟩
theorem parseF_ok : ∀ (ls : List (List UInt8)) (s t : PSt) (k : Nat), parseF s k ls = .ok t → HdOk s.1 → XsOk s.2 → HdOk t.1 ∧ XsOk t.2 ∧ 4 ≤ t.1.length
  | [], s, t, k, h, hh, hx => by
    rw [parseF] at h
    by_cases h4 : s.1.length < 4
    · rw [if_pos h4] at h; cases h
    · rw [if_neg h4] at h
      simp only [Except.ok.injEq] at h
      subst h
      exact ⟨hh, hx, by omega⟩
  | l :: r, s, t, k, h, hh, hx => by
    rw [parseF] at h
    cases hs : stepP s l with
    | error e => rw [hs] at h; cases h
    | ok u =>
      rw [hs] at h
      obtain ⟨h1, h2⟩ := step_ok hs hh hx
      exact parseF_ok r u t (k + 1) h h1 h2
theorem parseP_ok {text : List UInt8} {t : PSt} (h : parseP text = .ok t) : HdOk t.1 ∧ XsOk t.2 ∧ t.1.length = 4 := by
  unfold parseP at h
  by_cases hl : 65536 < text.length
  · rw [if_pos hl] at h; cases h
  · rw [if_neg hl] at h
    obtain ⟨h1, h2, h3⟩ := parseF_ok _ _ _ _ h ⟨by simp, fun i ns h => by simp at h⟩ ⟨by simp, fun x h => by simp at h⟩
    exact ⟨h1, h2, by have := h1.1; omega⟩
theorem oX_len (text : List UInt8) : (oX (parseP text)).length ≤ 4096 := by
  cases h : parseP text with
  | error e => simp [oX]
  | ok s => exact (parseP_ok h).2.1.1
theorem oC_is (o : Except (Int × Int) PSt) : ∃ ses tok seed loc del ahe siz age mos rat bur, oC o = cfL ses tok seed loc del ahe siz age mos rat bur := by
  cases o with
  | error e => exact ⟨_, _, _, _, _, _, _, _, _, _, _, rfl⟩
  | ok s => exact ⟨_, _, _, _, _, _, _, _, _, _, _, rfl⟩
set_option maxRecDepth 100000 in
set_option maxHeartbeats 12800000 in
theorem parses_law (text : List UInt8) (m : Int) (w : World) (hm : w.cell? ⟨0, 0, none⟩ = some (.int .i64 m)) :
    Calls Tryd.prog 6 #[txt text] w fun e w' => e = .returned (.bool true) ∧ Kept [] w w' := by
  have HM := hx (fun w1 (hk : Kept [] w w1) => by rw [hk.cell (World.block_lt_of_cell? _ _ hm) (by simp)]; exact hm : ∀ w1, Kept [] w w1 → w1.cell? ⟨0, 0, none⟩ = some (.int .i64 m))
  have HA := hx (fun w1 (hk : Kept [] w w1) => awake_any m w1 (HM.out w1 hk))
  have HP := hx (fun w1 (hk : Kept [] w w1) => (pparse_any text m w1 (HM.out w1 hk)).mono (fun _ _ h => h.parts))
  have HQ := hx (fun w1 => (rparset_any text w1).mono (fun _ _ h => h.parts))
  obtain ⟨ses, tok, seed, loc, del, ahe, siz, age, mos, rat, bur, hC⟩ := oC_is (parseP text)
  have HR := hx (fun w1 => ref_any ses tok seed loc del ahe siz age mos rat bur w1)
  simp only [cfL] at HR
  have hxl := oX_len text
  rw [hC] at HP HQ
  generalize oX (parseP text) = xs at *
  generalize (oN (parseP text)).1 = n at *
  generalize (oN (parseP text)).2 = c0 at *
  have HXL := hx hxl
  clear hm hC hxl
  simp only [cfL, List.cons_append, List.nil_append] at HP HQ
  by_cases hbig : (70000 : Int) < (text.length : Int)
  · go_enter Tryd.func6, Tryd.ntmps6
    go_wp2_with (go_at_call 8; refine (HA.out _ (Kept.refl [] w)).mono ?_; rintro e w1 ⟨rfl, hk⟩; have K1 := hx hk; clear hk)
    go_ret
    exact ⟨rfl, K1.out⟩
  · go_enter Tryd.func6, Tryd.ntmps6
    go_upto_region 7 with (first
      | (go_at_call 8; refine (HA.out _ (Kept.refl [] w)).mono ?_; rintro e w1 ⟨rfl, hk⟩; have K1 := hx hk; clear hk)
      | (go_at_call 20; refine (HP.out _ K1.out).mono ?_; rintro e w2 ⟨hk, a, c, rfl, ha⟩; have K2 := hx (K1.out.trans0 hk); have A2 := hx ha; clear hk ha)
      | (go_at_call 21; refine (HQ.out _).mono ?_; rintro e w4 ⟨hk, b, d, rfl, hb⟩; have K4 := hx ((K2.out.alloc (.cells [.int .u32 ses, .int .u32 tok, .int .u32 seed, .int .i64 loc, .int .i64 del, .int .i64 ahe, .int .i64 siz, .int .i64 age, .int .i64 mos, .int .i64 rat, .int .i64 bur, .slice a xs.length c].toArray 46)).trans0 hk); have A4 := hx ((A2.out.kept ((Kept.refl [] w2).alloc (.cells [.int .u32 ses, .int .u32 tok, .int .u32 seed, .int .i64 loc, .int .i64 del, .int .i64 ahe, .int .i64 siz, .int .i64 age, .int .i64 mos, .int .i64 rat, .int .i64 bur, .slice a xs.length c].toArray 46))).kept hk); have A5 := hx hb; have B4 := hx (hk.blk (Blk.new w2 [.int .u32 ses, .int .u32 tok, .int .u32 seed, .int .i64 loc, .int .i64 del, .int .i64 ahe, .int .i64 siz, .int .i64 age, .int .i64 mos, .int .i64 rat, .int .i64 bur, .slice a xs.length c] 46) (by simp)); clear hk hb))
    have K5 := hx (K4.out.alloc (.cells [.int .u32 ses, .int .u32 tok, .int .u32 seed, .int .i64 loc, .int .i64 del, .int .i64 ahe, .int .i64 siz, .int .i64 age, .int .i64 mos, .int .i64 rat, .int .i64 bur].toArray 50))
    have A6 := hx (A4.out.kept ((Kept.refl [] w4).alloc (.cells [.int .u32 ses, .int .u32 tok, .int .u32 seed, .int .i64 loc, .int .i64 del, .int .i64 ahe, .int .i64 siz, .int .i64 age, .int .i64 mos, .int .i64 rat, .int .i64 bur].toArray 50)))
    have A7 := hx (A5.out.kept ((Kept.refl [] w4).alloc (.cells [.int .u32 ses, .int .u32 tok, .int .u32 seed, .int .i64 loc, .int .i64 del, .int .i64 ahe, .int .i64 siz, .int .i64 age, .int .i64 mos, .int .i64 rat, .int .i64 bur].toArray 50)))
    have B5 := hx (B4.out.alloc (.cells [.int .u32 ses, .int .u32 tok, .int .u32 seed, .int .i64 loc, .int .i64 del, .int .i64 ahe, .int .i64 siz, .int .i64 age, .int .i64 mos, .int .i64 rat, .int .i64 bur].toArray 50))
    have B6 := hx (Blk.new w4 [.int .u32 ses, .int .u32 tok, .int .u32 seed, .int .i64 loc, .int .i64 del, .int .i64 ahe, .int .i64 siz, .int .i64 age, .int .i64 mos, .int .i64 rat, .int .i64 bur] 50)
    generalize World.alloc w4 _ = W at *
    generalize w2.heap.size = z at *
    generalize w4.heap.size = y at *
    generalize hxl : xs.length = xl at *
    have HXN := hx hxl
    clear hxl K4 A4 A5 B4 HA HP HQ HM K1 K2 A2
    have HSK := hx (fun (w3 : World) (hk : Kept [] W w3) => show (fun w3 : World => w3.cell? ⟨z, 0, none⟩ = some (.int .u32 ses) ∧ w3.cell? ⟨z, 1, none⟩ = some (.int .u32 tok) ∧ w3.cell? ⟨z, 2, none⟩ = some (.int .u32 seed) ∧ w3.cell? ⟨z, 3, none⟩ = some (.int .i64 loc) ∧ w3.cell? ⟨z, 4, none⟩ = some (.int .i64 del) ∧ w3.cell? ⟨z, 5, none⟩ = some (.int .i64 ahe) ∧ w3.cell? ⟨z, 6, none⟩ = some (.int .i64 siz) ∧ w3.cell? ⟨z, 7, none⟩ = some (.int .i64 age) ∧ w3.cell? ⟨z, 8, none⟩ = some (.int .i64 mos) ∧ w3.cell? ⟨z, 9, none⟩ = some (.int .i64 rat) ∧ w3.cell? ⟨z, 10, none⟩ = some (.int .i64 bur) ∧ w3.cell? ⟨z, 11, none⟩ = some (.slice a xl c) ∧ w3.cell? ⟨y, 0, none⟩ = some (.int .u32 ses) ∧ w3.cell? ⟨y, 1, none⟩ = some (.int .u32 tok) ∧ w3.cell? ⟨y, 2, none⟩ = some (.int .u32 seed) ∧ w3.cell? ⟨y, 3, none⟩ = some (.int .i64 loc) ∧ w3.cell? ⟨y, 4, none⟩ = some (.int .i64 del) ∧ w3.cell? ⟨y, 5, none⟩ = some (.int .i64 ahe) ∧ w3.cell? ⟨y, 6, none⟩ = some (.int .i64 siz) ∧ w3.cell? ⟨y, 7, none⟩ = some (.int .i64 age) ∧ w3.cell? ⟨y, 8, none⟩ = some (.int .i64 mos) ∧ w3.cell? ⟨y, 9, none⟩ = some (.int .i64 rat) ∧ w3.cell? ⟨y, 10, none⟩ = some (.int .i64 bur)) w3 from (by have h5 := hk.blk B5.out (by simp); have h6 := hk.blk B6.out (by simp); exact ⟨h5.cell (i := 0) rfl, h5.cell (i := 1) rfl, h5.cell (i := 2) rfl, h5.cell (i := 3) rfl, h5.cell (i := 4) rfl, h5.cell (i := 5) rfl, h5.cell (i := 6) rfl, h5.cell (i := 7) rfl, h5.cell (i := 8) rfl, h5.cell (i := 9) rfl, h5.cell (i := 10) rfl, h5.cell (i := 11) rfl, h6.cell (i := 0) rfl, h6.cell (i := 1) rfl, h6.cell (i := 2) rfl, h6.cell (i := 3) rfl, h6.cell (i := 4) rfl, h6.cell (i := 5) rfl, h6.cell (i := 6) rfl, h6.cell (i := 7) rfl, h6.cell (i := 8) rfl, h6.cell (i := 9) rfl, h6.cell (i := 10) rfl⟩))
    have HSM := hx (fun (w3 : World) (hk : Kept [] W w3) => by have h := same_any a b c d xs w3 (A6.out.kept hk) (A7.out.kept hk) (by have h1 := HXN.out; have h2 := HXL.out; omega); rw [HXN.out] at h; exact h : ∀ w3, Kept [] W w3 → Calls Tryd.prog 22 #[.slice a xl c, .slice b xl d] w3 fun e w' => e = .returned (.bool true) ∧ Kept [] w3 w')
    clear A6 A7
    refine wp_region_held_drew (S := (fun w3 : World => w3.cell? ⟨z, 0, none⟩ = some (.int .u32 ses) ∧ w3.cell? ⟨z, 1, none⟩ = some (.int .u32 tok) ∧ w3.cell? ⟨z, 2, none⟩ = some (.int .u32 seed) ∧ w3.cell? ⟨z, 3, none⟩ = some (.int .i64 loc) ∧ w3.cell? ⟨z, 4, none⟩ = some (.int .i64 del) ∧ w3.cell? ⟨z, 5, none⟩ = some (.int .i64 ahe) ∧ w3.cell? ⟨z, 6, none⟩ = some (.int .i64 siz) ∧ w3.cell? ⟨z, 7, none⟩ = some (.int .i64 age) ∧ w3.cell? ⟨z, 8, none⟩ = some (.int .i64 mos) ∧ w3.cell? ⟨z, 9, none⟩ = some (.int .i64 rat) ∧ w3.cell? ⟨z, 10, none⟩ = some (.int .i64 bur) ∧ w3.cell? ⟨z, 11, none⟩ = some (.slice a xl c) ∧ w3.cell? ⟨y, 0, none⟩ = some (.int .u32 ses) ∧ w3.cell? ⟨y, 1, none⟩ = some (.int .u32 tok) ∧ w3.cell? ⟨y, 2, none⟩ = some (.int .u32 seed) ∧ w3.cell? ⟨y, 3, none⟩ = some (.int .i64 loc) ∧ w3.cell? ⟨y, 4, none⟩ = some (.int .i64 del) ∧ w3.cell? ⟨y, 5, none⟩ = some (.int .i64 ahe) ∧ w3.cell? ⟨y, 6, none⟩ = some (.int .i64 siz) ∧ w3.cell? ⟨y, 7, none⟩ = some (.int .i64 age) ∧ w3.cell? ⟨y, 8, none⟩ = some (.int .i64 mos) ∧ w3.cell? ⟨y, 9, none⟩ = some (.int .i64 rat) ∧ w3.cell? ⟨y, 10, none⟩ = some (.int .i64 bur))) (by kernel_rfl) (HSK.out _ ((Kept.refl [] W).drew)) (fun hHeld => ?_)
    refine take_by 0 28 (v := ?_) rfl rfl (by kernel_rfl) (by kernel_rfl) (by kernel_rfl) (fun _ _ _ h => h) (Or.inl ⟨by rfl, ?_⟩) (by assumption) ?_
    rotate_left
    · (intro w hSw; (try dsimp only at hSw); go_simp; try with_reducible rfl)
    try simp only [List.setIfInBounds_toArray, List.set_cons_zero, List.set_cons_succ]
    refine take_by 1 29 (v := ?_) rfl rfl (by kernel_rfl) (by kernel_rfl) (by kernel_rfl) (fun _ _ _ h => h) (Or.inl ⟨by rfl, ?_⟩) (by assumption) ?_
    rotate_left
    · (intro w hSw; (try dsimp only at hSw); go_simp; try with_reducible rfl)
    try simp only [List.setIfInBounds_toArray, List.set_cons_zero, List.set_cons_succ]
    refine take_by 3 31 (v := ?_) rfl rfl (by kernel_rfl) (by kernel_rfl) (by kernel_rfl) (fun _ _ _ h => h) (Or.inl ⟨by rfl, ?_⟩) (by assumption) ?_
    rotate_left
    · (intro w hSw; (try dsimp only at hSw); go_simp; try with_reducible rfl)
    try simp only [List.setIfInBounds_toArray, List.set_cons_zero, List.set_cons_succ]
    refine wpAnyH_ready (rs := [2]) (by kernel_rfl) (by simp) ?_
    refine AllReadyH.cons rfl (fun K hK => ?_) AllReadyH.nil
    go_simp
    (go_at_call 19; refine (HR.out _).mono ?_; rintro e w4 ⟨rfl, hk4⟩; have HK4 := hx (show Kept [] W w4 from (Kept.drew (Kept.refl [] W)).trans0 hk4); have hSS := HSK.out _ HK4.out)
    refine hK.out _ _ (hSS) (fun hHeld => ?_)
    clear hK K
    try simp only [Act.put, List.setIfInBounds_toArray, List.set_cons_zero, List.set_cons_succ]
    refine take_by 4 32 (v := ?_) rfl rfl (by kernel_rfl) (by kernel_rfl) (by kernel_rfl) (fun _ _ _ h => h) (Or.inl ⟨by rfl, ?_⟩) (by assumption) ?_
    rotate_left
    · (intro w hSw; (try dsimp only at hSw); go_simp; try with_reducible rfl)
    try simp only [List.setIfInBounds_toArray, List.set_cons_zero, List.set_cons_succ]
    refine take_by 5 33 (v := ?_) rfl rfl (by kernel_rfl) (by kernel_rfl) (by kernel_rfl) (fun _ _ _ h => h) (Or.inl ⟨by rfl, ?_⟩) (by assumption) ?_
    rotate_left
    · (intro w hSw; (try dsimp only at hSw); go_simp; try with_reducible rfl)
    try simp only [List.setIfInBounds_toArray, List.set_cons_zero, List.set_cons_succ]
    refine take_by 6 34 (v := ?_) rfl rfl (by kernel_rfl) (by kernel_rfl) (by kernel_rfl) (fun _ _ _ h => h) (Or.inl ⟨by rfl, ?_⟩) (by assumption) ?_
    rotate_left
    · (intro w hSw; (try dsimp only at hSw); go_simp; try with_reducible rfl)
    try simp only [List.setIfInBounds_toArray, List.set_cons_zero, List.set_cons_succ]
    refine take_by 7 35 (v := ?_) rfl rfl (by kernel_rfl) (by kernel_rfl) (by kernel_rfl) (fun _ _ _ h => h) (Or.inl ⟨by rfl, ?_⟩) (by assumption) ?_
    rotate_left
    · (intro w hSw; (try dsimp only at hSw); go_simp; try with_reducible rfl)
    try simp only [List.setIfInBounds_toArray, List.set_cons_zero, List.set_cons_succ]
    refine take_by 8 36 (v := ?_) rfl rfl (by kernel_rfl) (by kernel_rfl) (by kernel_rfl) (fun _ _ _ h => h) (Or.inl ⟨by rfl, ?_⟩) (by assumption) ?_
    rotate_left
    · (intro w hSw; (try dsimp only at hSw); go_simp; try with_reducible rfl)
    try simp only [List.setIfInBounds_toArray, List.set_cons_zero, List.set_cons_succ]
    refine wpAnyH_ready (rs := [9]) (by kernel_rfl) (by simp) ?_
    refine AllReadyH.cons rfl (fun K hK => ?_) AllReadyH.nil
    go_simp
    (go_at_call 22; refine (HSM.out _ HK4.out).mono ?_; rintro e w5 ⟨rfl, hk5⟩; have HK5 := hx (show Kept [] W w5 from HK4.out.trans0 hk5); have hSS5 := HSK.out _ HK5.out)
    refine hK.out _ _ (hSS5) (fun hHeld => ?_)
    clear hK K
    try simp only [Act.put, List.setIfInBounds_toArray, List.set_cons_zero, List.set_cons_succ]
    refine take_by 10 38 (v := ?_) rfl rfl (by kernel_rfl) (by kernel_rfl) (by kernel_rfl) (fun _ _ _ h => h) (Or.inl ⟨by rfl, ?_⟩) (by assumption) ?_
    rotate_left
    · (intro w hSw; (try dsimp only at hSw); go_simp; try with_reducible rfl)
    try simp only [List.setIfInBounds_toArray, List.set_cons_zero, List.set_cons_succ]
    refine take_by 11 39 (v := ?_) rfl rfl (by kernel_rfl) (by kernel_rfl) (by kernel_rfl) (fun _ _ _ h => h) (Or.inl ⟨by rfl, ?_⟩) (by assumption) ?_
    rotate_left
    · (intro w hSw; (try dsimp only at hSw); go_simp; try with_reducible rfl)
    try simp only [List.setIfInBounds_toArray, List.set_cons_zero, List.set_cons_succ]
    refine take_by 12 40 (v := ?_) rfl rfl (by kernel_rfl) (by kernel_rfl) (by kernel_rfl) (fun _ _ _ h => h) (Or.inl ⟨by rfl, ?_⟩) (by assumption) ?_
    rotate_left
    · (intro w hSw; (try dsimp only at hSw); go_simp; try with_reducible rfl)
    try simp only [List.setIfInBounds_toArray, List.set_cons_zero, List.set_cons_succ]
    refine take_by 13 41 (v := ?_) rfl rfl (by kernel_rfl) (by kernel_rfl) (by kernel_rfl) (fun _ _ _ h => h) (Or.inl ⟨by rfl, ?_⟩) (by assumption) ?_
    rotate_left
    · (intro w hSw; (try dsimp only at hSw); go_simp; try with_reducible rfl)
    try simp only [List.setIfInBounds_toArray, List.set_cons_zero, List.set_cons_succ]
    refine take_by 14 42 (v := ?_) rfl rfl (by kernel_rfl) (by kernel_rfl) (by kernel_rfl) (fun _ _ _ h => h) (Or.inl ⟨by rfl, ?_⟩) (by assumption) ?_
    rotate_left
    · (intro w hSw; (try dsimp only at hSw); go_simp; try with_reducible rfl)
    try simp only [List.setIfInBounds_toArray, List.set_cons_zero, List.set_cons_succ]
    refine take_by 15 43 (v := ?_) rfl rfl (by kernel_rfl) (by kernel_rfl) (by kernel_rfl) (fun _ _ _ h => h) (Or.inl ⟨by rfl, ?_⟩) (by assumption) ?_
    rotate_left
    · (intro w hSw; (try dsimp only at hSw); go_simp; try with_reducible rfl)
    try simp only [List.setIfInBounds_toArray, List.set_cons_zero, List.set_cons_succ]
    refine take_by 16 44 (v := ?_) rfl rfl (by kernel_rfl) (by kernel_rfl) (by kernel_rfl) (fun _ _ _ h => h) (Or.inl ⟨by rfl, ?_⟩) (by assumption) ?_
    rotate_left
    · (intro w hSw; (try dsimp only at hSw); go_simp; try with_reducible rfl)
    try simp only [List.setIfInBounds_toArray, List.set_cons_zero, List.set_cons_succ]
    refine take_by 17 45 (v := ?_) rfl rfl (by kernel_rfl) (by kernel_rfl) (by kernel_rfl) (fun _ _ _ h => h) (Or.inl ⟨by rfl, ?_⟩) (by assumption) ?_
    rotate_left
    · (intro w hSw; (try dsimp only at hSw); go_simp; try with_reducible rfl)
    try simp only [List.setIfInBounds_toArray, List.set_cons_zero, List.set_cons_succ]
    refine take_by 18 46 (v := ?_) rfl rfl (by kernel_rfl) (by kernel_rfl) (by kernel_rfl) (fun _ _ _ h => h) (Or.inl ⟨by rfl, ?_⟩) (by assumption) ?_
    rotate_left
    · (intro w hSw; (try dsimp only at hSw); go_simp; try with_reducible rfl)
    try simp only [List.setIfInBounds_toArray, List.set_cons_zero, List.set_cons_succ]
    refine take_by 19 47 (v := ?_) rfl rfl (by kernel_rfl) (by kernel_rfl) (by kernel_rfl) (fun _ _ _ h => h) (Or.inl ⟨by rfl, ?_⟩) (by assumption) ?_
    rotate_left
    · (intro w hSw; (try dsimp only at hSw); go_simp; try with_reducible rfl)
    try simp only [List.setIfInBounds_toArray, List.set_cons_zero, List.set_cons_succ]
    refine take_by 20 48 (v := ?_) rfl rfl (by kernel_rfl) (by kernel_rfl) (by kernel_rfl) (fun _ _ _ h => h) (Or.inl ⟨by rfl, ?_⟩) (by assumption) ?_
    rotate_left
    · (intro w hSw; (try dsimp only at hSw); go_simp; try with_reducible rfl)
    try simp only [List.setIfInBounds_toArray, List.set_cons_zero, List.set_cons_succ]
    refine take_by 21 2 (v := ?_) rfl rfl (by kernel_rfl) (by kernel_rfl) (by kernel_rfl) (fun _ _ _ h => h) (Or.inl ⟨by rfl, ?_⟩) (by assumption) ?_
    rotate_left
    · (intro w hSw; (try dsimp only at hSw); go_simp; try with_reducible rfl)
    try simp only [List.setIfInBounds_toArray, List.set_cons_zero, List.set_cons_succ]
    refine wpAnyH_done (by kernel_rfl) ?_ _
    go_wp2_with fail
    go_ret
    exact ⟨rfl, K5.out.trans0 HK5.out⟩
end Go.Proofs.YtdfbofkdlgfblaaDoor
