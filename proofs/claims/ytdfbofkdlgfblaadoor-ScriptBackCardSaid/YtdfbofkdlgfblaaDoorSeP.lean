/- The law's comparison of acts. The law ScriptParses. The plain law of ScriptBack: what is printed is read, what is read is printed. The law ScriptBack. -/
import Derived.Test.YtdfbofkdlgfblaaDoorSeL
import Derived.BigQuiet
import Derived.Test.YtdfbofkdlgfblaaDoorSdC
import Derived.Test.YtdfbofkdlgfblaaDoorSdD
namespace Go.Proofs.YtdfbofkdlgfblaaDoor
open Go Go.RowKit
theorem AcR.cells {w : World} {a : Option Addr} {xs : List (List Int)} (h : AcR w a xs) {i : Nat} {k p q r s t : Int} (hx : xs[i]? = some [k, p, q, r, s, t]) {g o : Nat} (ha : a = some ⟨g, o, none⟩) :
    w.cell? ⟨g, o + i * 6, none⟩ = some (.int .i64 k) ∧ w.cell? ⟨g, o + i * 6 + 1, none⟩ = some (.int .i64 p) ∧ w.cell? ⟨g, o + i * 6 + 2, none⟩ = some (.int .i64 q) ∧ w.cell? ⟨g, o + i * 6 + 3, none⟩ = some (.int .i64 r) ∧ w.cell? ⟨g, o + i * 6 + 4, none⟩ = some (.int .i64 s) ∧ w.cell? ⟨g, o + i * 6 + 5, none⟩ = some (.int .i64 t) := by
  obtain ⟨g2, o2, ha2, _, hr⟩ := h.at_ i _ hx
  rw [ha] at ha2
  simp only [Option.some.injEq, Addr.mk.injEq, and_true] at ha2
  obtain ⟨rfl, rfl⟩ := ha2
  exact ⟨hr 0 _ rfl, hr 1 _ rfl, hr 2 _ rfl, hr 3 _ rfl, hr 4 _ rfl, hr 5 _ rfl⟩
theorem AcR.addr {w : World} {a : Option Addr} {xs : List (List Int)} (h : AcR w a xs) (hn : 0 < xs.length) : ∃ g o, a = some ⟨g, o, none⟩ := by
  obtain ⟨g, o, ha, _⟩ := h.at_ 0 _ (List.getElem?_eq_getElem hn)
  exact ⟨g, o, ha⟩
set_option maxRecDepth 100000 in
set_option maxHeartbeats 12800000 in
theorem same_any (a b : Option Addr) (c d : Nat) (xs : List (List Int)) (w : World) (ha : AcR w a xs) (hb : AcR w b xs) (hn : xs.length ≤ 5000) :
    Calls Tryd.prog 22 #[.slice a xs.length c, .slice b xs.length d] w fun e w' => e = .returned (.bool true) ∧ Kept [] w w' := by
  by_cases h0 : xs.length = 0
  · rw [h0]
    clear ha hb hn
    go_enter Tryd.func22, Tryd.ntmps22
    go_wp2_with fail
    go_loopw [5] (fun iv wr => iv = .int .i64 0 ∧ wr = w) (fun _ _ => 0)
    case atStart => exact ⟨rfl, rfl⟩
    case round =>
      obtain ⟨rfl, rfl⟩ := hrel
      go_wp2_with fail
      go_ret
      exact ⟨rfl, Kept.refl _ _⟩
  · obtain ⟨g, o, rfl⟩ := ha.addr (by omega)
    obtain ⟨g2, o2, rfl⟩ := hb.addr (by omega)
    have HA := hx ha
    have HB := hx hb
    generalize hm : xs.length = n at *
    have HN := hx hm
    clear ha hb hm
    go_enter Tryd.func22, Tryd.ntmps22
    go_wp2_with fail
    go_loopw [5] (fun iv wr => ∃ i : Nat, iv = .int .i64 (i : Int) ∧ i ≤ n ∧ Kept [] w wr) (fun iv _ => n - (intOf iv).toNat)
    case atStart => exact ⟨0, rfl, Nat.zero_le _, Kept.refl _ _⟩
    case round =>
      obtain ⟨i, rfl, hi, hk⟩ := hrel
      have HK := hx hk
      clear hk
      by_cases hlt : i < n
      · have hil : (i : Int) < (n : Int) := by omega
        obtain ⟨x, hxx⟩ : ∃ x, xs[i]? = some x := ⟨_, List.getElem?_eq_getElem (by have := HN.out; omega)⟩
        obtain ⟨k, p, q, r, s, t, rfl⟩ := six (HA.out.six x (List.mem_of_getElem? hxx)).1
        obtain ⟨a0, a1, a2, a3, a4, a5⟩ := (HA.out.kept HK.out).cells hxx rfl
        obtain ⟨b0, b1, b2, b3, b4, b5⟩ := (HB.out.kept HK.out).cells hxx rfl
        have HI := hx hlt
        clear hxx hlt hi h0
        go_upto_region 6 with fail
        go_quiet (fail)
        go_wp2_with fail
        go_roundw
        case rel => exact ⟨i + 1, by push_cast; rfl, HI.out, HK.out.trans0 (Kept.drewN (Kept.refl [] _) _)⟩
        case measure =>
          simp only [intOf]
          have h := HI.out
          omega
      · have hil : ¬ (i : Int) < (n : Int) := by omega
        clear h0 hi hlt
        go_wp2_with fail
        go_ret
        exact ⟨rfl, HK.out⟩
end Go.Proofs.YtdfbofkdlgfblaaDoor
namespace Go.Proofs.YtdfbofkdlgfblaaDoor
open Go Go.RowKit
/-- What a text's script is, in parts. -/
def oC : Except (Int × Int) PSt → List Value
  | .error _ => zcf
  | .ok s => cfOf s.1
def oX : Except (Int × Int) PSt → List (List Int)
  | .error _ => []
  | .ok s => s.2
def oN : Except (Int × Int) PSt → Int × Int
  | .error e => e
  | .ok _ => (0, 0)
theorem PaQ.parts {o : Except (Int × Int) PSt} {w0 w' : World} {e : Ending} (h : PaQ o w0 e w') : Kept [] w0 w' ∧ ∃ a c, e = .returned (.tuple #[.agg (oC o ++ [Value.slice a (oX o).length c]).toArray, .int .i64 (oN o).1, .int .i64 (oN o).2]) ∧ AcR w' a (oX o) := by
  obtain ⟨hk, h2⟩ := h
  cases o with
  | error e =>
    obtain ⟨n, c⟩ := e
    exact ⟨hk, none, 0, h2, fun i x hx => by simp [oX] at hx, fun x hx => by simp [oX] at hx⟩
  | ok s =>
    obtain ⟨a, c, he, ha⟩ := h2
    exact ⟨hk, a, c, he, ha⟩
theorem RaQ.parts {o : Except (Int × Int) PSt} {w0 w' : World} {e : Ending} (h : RaQ o w0 e w') : Kept [] w0 w' ∧ ∃ a c, e = .returned (.tuple #[.agg (oC o).toArray, Value.slice a (oX o).length c, .int .i64 (oN o).1, .int .i64 (oN o).2]) ∧ AcR w' a (oX o) := by
  obtain ⟨hk, h2⟩ := h
  cases o with
  | error e =>
    obtain ⟨n, c⟩ := e
    exact ⟨hk, none, 0, h2, fun i x hx => by simp [oX] at hx, fun x hx => by simp [oX] at hx⟩
  | ok s =>
    obtain ⟨a, c, he, ha⟩ := h2
    exact ⟨hk, a, c, he, ha⟩
theorem step_ok {s t : PSt} {l : List UInt8} (h : stepP s l = .ok t) (hh : HdOk s.1) (hx : XsOk s.2) : HdOk t.1 ∧ XsOk t.2 := by
  unfold stepP at h
  by_cases h4 : s.1.length < 4
  · rw [if_pos h4] at h
    cases hq : hlL s.1.length l with
    | none => rw [hq] at h; cases h
    | some ns =>
      rw [hq] at h
      simp only [Except.ok.injEq] at h
      subst h
      exact ⟨hh.snoc h4 hq, hx⟩
  · rw [if_neg h4] at h
    cases hq : parseL l with
    | none => rw [hq] at h; cases h
    | some x =>
      rw [hq] at h
      by_cases h40 : 4096 ≤ s.2.length
      · simp [h40] at h
      · simp only [if_neg h40, Except.ok.injEq] at h
        subst h
        exact ⟨hh, hx.snoc (by omega) hq⟩
theorem parseF_ok : ∀ (ls : List (List UInt8)) (s t : PSt) (k : Nat), parseF s k ls = .ok t → HdOk s.1 → XsOk s.2 → HdOk t.1 ∧ XsOk t.2 ∧ 4 ≤ t.1.length
  | [], s, t, k, h, hh, hx => by
    rw [parseF] at h
    by_cases h4 : s.1.length < 4
    · rw [if_pos h4] at h; cases h
    · rw [if_neg h4] at h
      simp only [Except.ok.injEq] at h
      subst h
      exact ⟨hh, hx, by omega⟩
  | l :: r, s, t, k, h, hh, hx => by
    rw [parseF] at h
    cases hs : stepP s l with
    | error e => rw [hs] at h; cases h
    | ok u =>
      rw [hs] at h
      obtain ⟨h1, h2⟩ := step_ok hs hh hx
      exact parseF_ok r u t (k + 1) h h1 h2
theorem parseP_ok {text : List UInt8} {t : PSt} (h : parseP text = .ok t) : HdOk t.1 ∧ XsOk t.2 ∧ t.1.length = 4 := by
  unfold parseP at h
  by_cases hl : 65536 < text.length
  · rw [if_pos hl] at h; cases h
  · rw [if_neg hl] at h
    obtain ⟨h1, h2, h3⟩ := parseF_ok _ _ _ _ h ⟨by simp, fun i ns h => by simp at h⟩ ⟨by simp, fun x h => by simp at h⟩
    exact ⟨h1, h2, by have := h1.1; omega⟩
theorem oX_len (text : List UInt8) : (oX (parseP text)).length ≤ 4096 := by
  cases h : parseP text with
  | error e => simp [oX]
  | ok s => exact (parseP_ok h).2.1.1
theorem oC_is (o : Except (Int × Int) PSt) : ∃ ses tok seed loc del ahe siz age mos rat bur, oC o = cfL ses tok seed loc del ahe siz age mos rat bur := by
  cases o with
  | error e => exact ⟨_, _, _, _, _, _, _, _, _, _, _, rfl⟩
  | ok s => exact ⟨_, _, _, _, _, _, _, _, _, _, _, rfl⟩
set_option maxRecDepth 100000 in
set_option maxHeartbeats 12800000 in
theorem parses_law (text : List UInt8) (m : Int) (w : World) (hm : w.cell? ⟨0, 0, none⟩ = some (.int .i64 m)) :
    Calls Tryd.prog 6 #[txt text] w fun e w' => e = .returned (.bool true) ∧ Kept [] w w' := by
  have HM := hx (fun w1 (hk : Kept [] w w1) => by rw [hk.cell (World.block_lt_of_cell? _ _ hm) (by simp)]; exact hm : ∀ w1, Kept [] w w1 → w1.cell? ⟨0, 0, none⟩ = some (.int .i64 m))
  have HA := hx (fun w1 (hk : Kept [] w w1) => awake_any m w1 (HM.out w1 hk))
  have HP := hx (fun w1 (hk : Kept [] w w1) => (pparse_any text m w1 (HM.out w1 hk)).mono (fun _ _ h => h.parts))
  have HQ := hx (fun w1 => (rparset_any text w1).mono (fun _ _ h => h.parts))
  obtain ⟨ses, tok, seed, loc, del, ahe, siz, age, mos, rat, bur, hC⟩ := oC_is (parseP text)
  have HR := hx (fun w1 => ref_any ses tok seed loc del ahe siz age mos rat bur w1)
  simp only [cfL] at HR
  have hxl := oX_len text
  rw [hC] at HP HQ
  generalize oX (parseP text) = xs at *
  generalize (oN (parseP text)).1 = n at *
  generalize (oN (parseP text)).2 = c0 at *
  have HXL := hx hxl
  clear hm hC hxl
  simp only [cfL, List.cons_append, List.nil_append] at HP HQ
  by_cases hbig : (70000 : Int) < (text.length : Int)
  · go_enter Tryd.func6, Tryd.ntmps6
    go_wp2_with (go_at_call 8; refine (HA.out _ (Kept.refl [] w)).mono ?_; rintro e w1 ⟨rfl, hk⟩; have K1 := hx hk; clear hk)
    go_ret
    exact ⟨rfl, K1.out⟩
  · go_enter Tryd.func6, Tryd.ntmps6
    go_upto_region 7 with (first
      | (go_at_call 8; refine (HA.out _ (Kept.refl [] w)).mono ?_; rintro e w1 ⟨rfl, hk⟩; have K1 := hx hk; clear hk)
      | (go_at_call 20; refine (HP.out _ K1.out).mono ?_; rintro e w2 ⟨hk, a, c, rfl, ha⟩; have K2 := hx (K1.out.trans0 hk); have A2 := hx ha; clear hk ha)
      | (go_at_call 21; refine (HQ.out _).mono ?_; rintro e w4 ⟨hk, b, d, rfl, hb⟩; have K4 := hx ((K2.out.alloc (.cells [.int .u32 ses, .int .u32 tok, .int .u32 seed, .int .i64 loc, .int .i64 del, .int .i64 ahe, .int .i64 siz, .int .i64 age, .int .i64 mos, .int .i64 rat, .int .i64 bur, .slice a xs.length c].toArray 46)).trans0 hk); have A4 := hx ((A2.out.kept ((Kept.refl [] w2).alloc (.cells [.int .u32 ses, .int .u32 tok, .int .u32 seed, .int .i64 loc, .int .i64 del, .int .i64 ahe, .int .i64 siz, .int .i64 age, .int .i64 mos, .int .i64 rat, .int .i64 bur, .slice a xs.length c].toArray 46))).kept hk); have A5 := hx hb; have B4 := hx (hk.blk (Blk.new w2 [.int .u32 ses, .int .u32 tok, .int .u32 seed, .int .i64 loc, .int .i64 del, .int .i64 ahe, .int .i64 siz, .int .i64 age, .int .i64 mos, .int .i64 rat, .int .i64 bur, .slice a xs.length c] 46) (by simp)); clear hk hb))
    have K5 := hx (K4.out.alloc (.cells [.int .u32 ses, .int .u32 tok, .int .u32 seed, .int .i64 loc, .int .i64 del, .int .i64 ahe, .int .i64 siz, .int .i64 age, .int .i64 mos, .int .i64 rat, .int .i64 bur].toArray 50))
    have A6 := hx (A4.out.kept ((Kept.refl [] w4).alloc (.cells [.int .u32 ses, .int .u32 tok, .int .u32 seed, .int .i64 loc, .int .i64 del, .int .i64 ahe, .int .i64 siz, .int .i64 age, .int .i64 mos, .int .i64 rat, .int .i64 bur].toArray 50)))
    have A7 := hx (A5.out.kept ((Kept.refl [] w4).alloc (.cells [.int .u32 ses, .int .u32 tok, .int .u32 seed, .int .i64 loc, .int .i64 del, .int .i64 ahe, .int .i64 siz, .int .i64 age, .int .i64 mos, .int .i64 rat, .int .i64 bur].toArray 50)))
    have B5 := hx (B4.out.alloc (.cells [.int .u32 ses, .int .u32 tok, .int .u32 seed, .int .i64 loc, .int .i64 del, .int .i64 ahe, .int .i64 siz, .int .i64 age, .int .i64 mos, .int .i64 rat, .int .i64 bur].toArray 50))
    have B6 := hx (Blk.new w4 [.int .u32 ses, .int .u32 tok, .int .u32 seed, .int .i64 loc, .int .i64 del, .int .i64 ahe, .int .i64 siz, .int .i64 age, .int .i64 mos, .int .i64 rat, .int .i64 bur] 50)
    generalize World.alloc w4 _ = W at *
    generalize w2.heap.size = z at *
    generalize w4.heap.size = y at *
    generalize hxl : xs.length = xl at *
    have HXN := hx hxl
    clear hxl K4 A4 A5 B4 HA HP HQ HM K1 K2 A2
    have HSK := hx (fun (w3 : World) (hk : Kept [] W w3) => show (fun w3 : World => w3.cell? ⟨z, 0, none⟩ = some (.int .u32 ses) ∧ w3.cell? ⟨z, 1, none⟩ = some (.int .u32 tok) ∧ w3.cell? ⟨z, 2, none⟩ = some (.int .u32 seed) ∧ w3.cell? ⟨z, 3, none⟩ = some (.int .i64 loc) ∧ w3.cell? ⟨z, 4, none⟩ = some (.int .i64 del) ∧ w3.cell? ⟨z, 5, none⟩ = some (.int .i64 ahe) ∧ w3.cell? ⟨z, 6, none⟩ = some (.int .i64 siz) ∧ w3.cell? ⟨z, 7, none⟩ = some (.int .i64 age) ∧ w3.cell? ⟨z, 8, none⟩ = some (.int .i64 mos) ∧ w3.cell? ⟨z, 9, none⟩ = some (.int .i64 rat) ∧ w3.cell? ⟨z, 10, none⟩ = some (.int .i64 bur) ∧ w3.cell? ⟨z, 11, none⟩ = some (.slice a xl c) ∧ w3.cell? ⟨y, 0, none⟩ = some (.int .u32 ses) ∧ w3.cell? ⟨y, 1, none⟩ = some (.int .u32 tok) ∧ w3.cell? ⟨y, 2, none⟩ = some (.int .u32 seed) ∧ w3.cell? ⟨y, 3, none⟩ = some (.int .i64 loc) ∧ w3.cell? ⟨y, 4, none⟩ = some (.int .i64 del) ∧ w3.cell? ⟨y, 5, none⟩ = some (.int .i64 ahe) ∧ w3.cell? ⟨y, 6, none⟩ = some (.int .i64 siz) ∧ w3.cell? ⟨y, 7, none⟩ = some (.int .i64 age) ∧ w3.cell? ⟨y, 8, none⟩ = some (.int .i64 mos) ∧ w3.cell? ⟨y, 9, none⟩ = some (.int .i64 rat) ∧ w3.cell? ⟨y, 10, none⟩ = some (.int .i64 bur)) w3 from (by have h5 := hk.blk B5.out (by simp); have h6 := hk.blk B6.out (by simp); exact ⟨h5.cell (i := 0) rfl, h5.cell (i := 1) rfl, h5.cell (i := 2) rfl, h5.cell (i := 3) rfl, h5.cell (i := 4) rfl, h5.cell (i := 5) rfl, h5.cell (i := 6) rfl, h5.cell (i := 7) rfl, h5.cell (i := 8) rfl, h5.cell (i := 9) rfl, h5.cell (i := 10) rfl, h5.cell (i := 11) rfl, h6.cell (i := 0) rfl, h6.cell (i := 1) rfl, h6.cell (i := 2) rfl, h6.cell (i := 3) rfl, h6.cell (i := 4) rfl, h6.cell (i := 5) rfl, h6.cell (i := 6) rfl, h6.cell (i := 7) rfl, h6.cell (i := 8) rfl, h6.cell (i := 9) rfl, h6.cell (i := 10) rfl⟩))
    have HSM := hx (fun (w3 : World) (hk : Kept [] W w3) => by have h := same_any a b c d xs w3 (A6.out.kept hk) (A7.out.kept hk) (by have h1 := HXN.out; have h2 := HXL.out; omega); rw [HXN.out] at h; exact h : ∀ w3, Kept [] W w3 → Calls Tryd.prog 22 #[.slice a xl c, .slice b xl d] w3 fun e w' => e = .returned (.bool true) ∧ Kept [] w3 w')
    clear A6 A7
    refine wp_region_held_drew (S := (fun w3 : World => w3.cell? ⟨z, 0, none⟩ = some (.int .u32 ses) ∧ w3.cell? ⟨z, 1, none⟩ = some (.int .u32 tok) ∧ w3.cell? ⟨z, 2, none⟩ = some (.int .u32 seed) ∧ w3.cell? ⟨z, 3, none⟩ = some (.int .i64 loc) ∧ w3.cell? ⟨z, 4, none⟩ = some (.int .i64 del) ∧ w3.cell? ⟨z, 5, none⟩ = some (.int .i64 ahe) ∧ w3.cell? ⟨z, 6, none⟩ = some (.int .i64 siz) ∧ w3.cell? ⟨z, 7, none⟩ = some (.int .i64 age) ∧ w3.cell? ⟨z, 8, none⟩ = some (.int .i64 mos) ∧ w3.cell? ⟨z, 9, none⟩ = some (.int .i64 rat) ∧ w3.cell? ⟨z, 10, none⟩ = some (.int .i64 bur) ∧ w3.cell? ⟨z, 11, none⟩ = some (.slice a xl c) ∧ w3.cell? ⟨y, 0, none⟩ = some (.int .u32 ses) ∧ w3.cell? ⟨y, 1, none⟩ = some (.int .u32 tok) ∧ w3.cell? ⟨y, 2, none⟩ = some (.int .u32 seed) ∧ w3.cell? ⟨y, 3, none⟩ = some (.int .i64 loc) ∧ w3.cell? ⟨y, 4, none⟩ = some (.int .i64 del) ∧ w3.cell? ⟨y, 5, none⟩ = some (.int .i64 ahe) ∧ w3.cell? ⟨y, 6, none⟩ = some (.int .i64 siz) ∧ w3.cell? ⟨y, 7, none⟩ = some (.int .i64 age) ∧ w3.cell? ⟨y, 8, none⟩ = some (.int .i64 mos) ∧ w3.cell? ⟨y, 9, none⟩ = some (.int .i64 rat) ∧ w3.cell? ⟨y, 10, none⟩ = some (.int .i64 bur))) (by kernel_rfl) (HSK.out _ ((Kept.refl [] W).drew)) (fun hHeld => ?_)
    refine take_by 0 28 (v := ?_) rfl rfl (by kernel_rfl) (by kernel_rfl) (by kernel_rfl) (fun _ _ _ h => h) (Or.inl ⟨by rfl, ?_⟩) (by assumption) ?_
    rotate_left
    · (intro w hSw; (try dsimp only at hSw); go_simp; try with_reducible rfl)
    try simp only [List.setIfInBounds_toArray, List.set_cons_zero, List.set_cons_succ]
    refine take_by 1 29 (v := ?_) rfl rfl (by kernel_rfl) (by kernel_rfl) (by kernel_rfl) (fun _ _ _ h => h) (Or.inl ⟨by rfl, ?_⟩) (by assumption) ?_
    rotate_left
    · (intro w hSw; (try dsimp only at hSw); go_simp; try with_reducible rfl)
    try simp only [List.setIfInBounds_toArray, List.set_cons_zero, List.set_cons_succ]
    refine take_by 3 31 (v := ?_) rfl rfl (by kernel_rfl) (by kernel_rfl) (by kernel_rfl) (fun _ _ _ h => h) (Or.inl ⟨by rfl, ?_⟩) (by assumption) ?_
    rotate_left
    · (intro w hSw; (try dsimp only at hSw); go_simp; try with_reducible rfl)
    try simp only [List.setIfInBounds_toArray, List.set_cons_zero, List.set_cons_succ]
    refine wpAnyH_ready (rs := [2]) (by kernel_rfl) (by simp) ?_
    refine AllReadyH.cons rfl (fun K hK => ?_) AllReadyH.nil
    go_simp
    (go_at_call 19; refine (HR.out _).mono ?_; rintro e w4 ⟨rfl, hk4⟩; have HK4 := hx (show Kept [] W w4 from (Kept.drew (Kept.refl [] W)).trans0 hk4); have hSS := HSK.out _ HK4.out)
    refine hK.out _ _ (hSS) (fun hHeld => ?_)
    clear hK K
    try simp only [Act.put, List.setIfInBounds_toArray, List.set_cons_zero, List.set_cons_succ]
    refine take_by 4 32 (v := ?_) rfl rfl (by kernel_rfl) (by kernel_rfl) (by kernel_rfl) (fun _ _ _ h => h) (Or.inl ⟨by rfl, ?_⟩) (by assumption) ?_
    rotate_left
    · (intro w hSw; (try dsimp only at hSw); go_simp; try with_reducible rfl)
    try simp only [List.setIfInBounds_toArray, List.set_cons_zero, List.set_cons_succ]
    refine take_by 5 33 (v := ?_) rfl rfl (by kernel_rfl) (by kernel_rfl) (by kernel_rfl) (fun _ _ _ h => h) (Or.inl ⟨by rfl, ?_⟩) (by assumption) ?_
    rotate_left
    · (intro w hSw; (try dsimp only at hSw); go_simp; try with_reducible rfl)
    try simp only [List.setIfInBounds_toArray, List.set_cons_zero, List.set_cons_succ]
    refine take_by 6 34 (v := ?_) rfl rfl (by kernel_rfl) (by kernel_rfl) (by kernel_rfl) (fun _ _ _ h => h) (Or.inl ⟨by rfl, ?_⟩) (by assumption) ?_
    rotate_left
    · (intro w hSw; (try dsimp only at hSw); go_simp; try with_reducible rfl)
    try simp only [List.setIfInBounds_toArray, List.set_cons_zero, List.set_cons_succ]
    refine take_by 7 35 (v := ?_) rfl rfl (by kernel_rfl) (by kernel_rfl) (by kernel_rfl) (fun _ _ _ h => h) (Or.inl ⟨by rfl, ?_⟩) (by assumption) ?_
    rotate_left
    · (intro w hSw; (try dsimp only at hSw); go_simp; try with_reducible rfl)
    try simp only [List.setIfInBounds_toArray, List.set_cons_zero, List.set_cons_succ]
    refine take_by 8 36 (v := ?_) rfl rfl (by kernel_rfl) (by kernel_rfl) (by kernel_rfl) (fun _ _ _ h => h) (Or.inl ⟨by rfl, ?_⟩) (by assumption) ?_
    rotate_left
    · (intro w hSw; (try dsimp only at hSw); go_simp; try with_reducible rfl)
    try simp only [List.setIfInBounds_toArray, List.set_cons_zero, List.set_cons_succ]
    refine wpAnyH_ready (rs := [9]) (by kernel_rfl) (by simp) ?_
    refine AllReadyH.cons rfl (fun K hK => ?_) AllReadyH.nil
    go_simp
    (go_at_call 22; refine (HSM.out _ HK4.out).mono ?_; rintro e w5 ⟨rfl, hk5⟩; have HK5 := hx (show Kept [] W w5 from HK4.out.trans0 hk5); have hSS5 := HSK.out _ HK5.out)
    refine hK.out _ _ (hSS5) (fun hHeld => ?_)
    clear hK K
    try simp only [Act.put, List.setIfInBounds_toArray, List.set_cons_zero, List.set_cons_succ]
    refine take_by 10 38 (v := ?_) rfl rfl (by kernel_rfl) (by kernel_rfl) (by kernel_rfl) (fun _ _ _ h => h) (Or.inl ⟨by rfl, ?_⟩) (by assumption) ?_
    rotate_left
    · (intro w hSw; (try dsimp only at hSw); go_simp; try with_reducible rfl)
    try simp only [List.setIfInBounds_toArray, List.set_cons_zero, List.set_cons_succ]
    refine take_by 11 39 (v := ?_) rfl rfl (by kernel_rfl) (by kernel_rfl) (by kernel_rfl) (fun _ _ _ h => h) (Or.inl ⟨by rfl, ?_⟩) (by assumption) ?_
    rotate_left
    · (intro w hSw; (try dsimp only at hSw); go_simp; try with_reducible rfl)
    try simp only [List.setIfInBounds_toArray, List.set_cons_zero, List.set_cons_succ]
    refine take_by 12 40 (v := ?_) rfl rfl (by kernel_rfl) (by kernel_rfl) (by kernel_rfl) (fun _ _ _ h => h) (Or.inl ⟨by rfl, ?_⟩) (by assumption) ?_
    rotate_left
    · (intro w hSw; (try dsimp only at hSw); go_simp; try with_reducible rfl)
    try simp only [List.setIfInBounds_toArray, List.set_cons_zero, List.set_cons_succ]
    refine take_by 13 41 (v := ?_) rfl rfl (by kernel_rfl) (by kernel_rfl) (by kernel_rfl) (fun _ _ _ h => h) (Or.inl ⟨by rfl, ?_⟩) (by assumption) ?_
    rotate_left
    · (intro w hSw; (try dsimp only at hSw); go_simp; try with_reducible rfl)
    try simp only [List.setIfInBounds_toArray, List.set_cons_zero, List.set_cons_succ]
    refine take_by 14 42 (v := ?_) rfl rfl (by kernel_rfl) (by kernel_rfl) (by kernel_rfl) (fun _ _ _ h => h) (Or.inl ⟨by rfl, ?_⟩) (by assumption) ?_
    rotate_left
    · (intro w hSw; (try dsimp only at hSw); go_simp; try with_reducible rfl)
    try simp only [List.setIfInBounds_toArray, List.set_cons_zero, List.set_cons_succ]
    refine take_by 15 43 (v := ?_) rfl rfl (by kernel_rfl) (by kernel_rfl) (by kernel_rfl) (fun _ _ _ h => h) (Or.inl ⟨by rfl, ?_⟩) (by assumption) ?_
    rotate_left
    · (intro w hSw; (try dsimp only at hSw); go_simp; try with_reducible rfl)
    try simp only [List.setIfInBounds_toArray, List.set_cons_zero, List.set_cons_succ]
    refine take_by 16 44 (v := ?_) rfl rfl (by kernel_rfl) (by kernel_rfl) (by kernel_rfl) (fun _ _ _ h => h) (Or.inl ⟨by rfl, ?_⟩) (by assumption) ?_
    rotate_left
    · (intro w hSw; (try dsimp only at hSw); go_simp; try with_reducible rfl)
    try simp only [List.setIfInBounds_toArray, List.set_cons_zero, List.set_cons_succ]
    refine take_by 17 45 (v := ?_) rfl rfl (by kernel_rfl) (by kernel_rfl) (by kernel_rfl) (fun _ _ _ h => h) (Or.inl ⟨by rfl, ?_⟩) (by assumption) ?_
    rotate_left
    · (intro w hSw; (try dsimp only at hSw); go_simp; try with_reducible rfl)
    try simp only [List.setIfInBounds_toArray, List.set_cons_zero, List.set_cons_succ]
    refine take_by 18 46 (v := ?_) rfl rfl (by kernel_rfl) (by kernel_rfl) (by kernel_rfl) (fun _ _ _ h => h) (Or.inl ⟨by rfl, ?_⟩) (by assumption) ?_
    rotate_left
    · (intro w hSw; (try dsimp only at hSw); go_simp; try with_reducible rfl)
    try simp only [List.setIfInBounds_toArray, List.set_cons_zero, List.set_cons_succ]
    refine take_by 19 47 (v := ?_) rfl rfl (by kernel_rfl) (by kernel_rfl) (by kernel_rfl) (fun _ _ _ h => h) (Or.inl ⟨by rfl, ?_⟩) (by assumption) ?_
    rotate_left
    · (intro w hSw; (try dsimp only at hSw); go_simp; try with_reducible rfl)
    try simp only [List.setIfInBounds_toArray, List.set_cons_zero, List.set_cons_succ]
    refine take_by 20 48 (v := ?_) rfl rfl (by kernel_rfl) (by kernel_rfl) (by kernel_rfl) (fun _ _ _ h => h) (Or.inl ⟨by rfl, ?_⟩) (by assumption) ?_
    rotate_left
    · (intro w hSw; (try dsimp only at hSw); go_simp; try with_reducible rfl)
    try simp only [List.setIfInBounds_toArray, List.set_cons_zero, List.set_cons_succ]
    refine take_by 21 2 (v := ?_) rfl rfl (by kernel_rfl) (by kernel_rfl) (by kernel_rfl) (fun _ _ _ h => h) (Or.inl ⟨by rfl, ?_⟩) (by assumption) ?_
    rotate_left
    · (intro w hSw; (try dsimp only at hSw); go_simp; try with_reducible rfl)
    try simp only [List.setIfInBounds_toArray, List.set_cons_zero, List.set_cons_succ]
    refine wpAnyH_done (by kernel_rfl) ?_ _
    go_wp2_with fail
    go_ret
    exact ⟨rfl, K5.out.trans0 HK5.out⟩
end Go.Proofs.YtdfbofkdlgfblaaDoor
namespace Go.Proofs.YtdfbofkdlgfblaaDoor
open Go Go.RowKit
theorem lineL_ten {x : List Int} {s : List UInt8} (hx : x.length = 6) (h64 : ∀ n, n ∈ x → in64 n) (h : lineL x = some s) : (10 : UInt8) ∉ s := fun hm => by
  have h1 := parse_line hx h64 h
  rw [parse_ten hm] at h1
  cases h1
/-- The acts' lines, read again. -/
theorem acts_parse : ∀ (xs : List (List Int)) (acc t : List UInt8), actsT acc xs = some t → (∀ x, x ∈ xs → x.length = 6 ∧ ∀ n, n ∈ x → in64 n) →
    ∃ r, t = acc ++ r ∧ ∀ (hs ys : List (List Int)) (k : Nat), 4 ≤ hs.length → ys.length + xs.length ≤ 4096 → parseF (hs, ys) k (lineS r) = .ok (hs, ys ++ xs)
  | [], acc, t, h, _ => by
    simp only [actsT, Option.some.injEq] at h
    subst h
    refine ⟨[], by simp, fun hs ys k h4 _ => ?_⟩
    rw [show lineS [] = [] from rfl, parseF, if_neg (by simpa using h4), List.append_nil]
  | x :: xs, acc, t, h, h6 => by
    rw [actsT] at h
    cases hL : lineL x with
    | none => rw [hL] at h; cases h
    | some s =>
      rw [hL] at h
      obtain ⟨r, hr, hp⟩ := acts_parse xs _ t h (fun y hy => h6 y (by simp [hy]))
      have hx := h6 x (by simp)
      refine ⟨s ++ 10 :: r, by rw [hr]; simp, fun hs ys k h4 hle => ?_⟩
      rw [lineS_line (lineL_ten hx.1 hx.2 hL), parseF]
      have hs1 : stepP (hs, ys) s = .ok (hs, ys ++ [x]) := by
        unfold stepP
        rw [if_neg (by simpa using h4), parse_line hx.1 hx.2 hL]
        simp only [List.length_cons] at hle
        exact if_neg (by show ¬ 4096 ≤ ys.length; omega)
      rw [hs1]
      dsimp only
      rw [hp hs (ys ++ [x]) (k + 1) h4 (by simp at hle ⊢; omega)]
      simp
theorem hl_noten {i : Nat} {ns : List Int} (hl : ns.length = headC i) (ho : okN i ns = true) (h64 : ∀ n, n ∈ ns → in64 n) : (10 : UInt8) ∉ accL (headW i) ns := fun hm => by
  have h1 := hl_of hl ho h64
  rw [hl_ten hm] at h1
  cases h1
/-- What is printed is read. -/
theorem print_parse {ses tok seed loc del ahe siz age mos rat bur : Int} {xs : List (List Int)} {t : List UInt8} (hp : printO loc (headT ses tok seed del ahe siz age mos rat bur) xs = (t, 0))
    (h1 : smallI ses = true) (h2 : smallI tok = true) (h3 : smallI seed = true) (h4 : in64 del) (h5 : in64 ahe) (h6 : in64 siz) (h7 : in64 age) (h8 : in64 mos) (h9 : in64 rat) (h10 : in64 bur)
    (hx : ∀ x, x ∈ xs → x.length = 6 ∧ ∀ n, n ∈ x → in64 n) :
    loc = 0 ∧ parseP t = .ok ([[seed, del, ahe], [siz, age, mos], [rat, bur], [ses, tok]], xs) := by
  have s64 : ∀ {n : Int}, smallI n = true → in64 n := fun h => by
    simp only [smallI, Bool.and_eq_true, decide_eq_true_eq] at h
    unfold in64
    omega
  unfold printO at hp
  by_cases hl : loc ≠ 0
  · rw [if_pos hl] at hp; simp at hp
  · rw [if_neg hl] at hp
    by_cases hb : 4096 < xs.length
    · rw [if_pos hb] at hp; simp at hp
    · rw [if_neg hb] at hp
      cases ha : actsT (headT ses tok seed del ahe siz age mos rat bur) xs with
      | none => rw [ha] at hp; simp [printS] at hp
      | some u =>
        rw [ha, printS] at hp
        by_cases hu : 65536 < u.length
        · rw [if_pos hu] at hp; simp at hp
        · rw [if_neg hu] at hp
          simp only [Prod.mk.injEq, and_true] at hp
          subst hp
          refine ⟨by simpa using hl, ?_⟩
          unfold parseP
          rw [if_neg hu]
          obtain ⟨r, hr, hq⟩ := acts_parse xs _ u ha hx
          have i0 : ∀ n, n ∈ [seed, del, ahe] → in64 n := by intro n hn; simp only [List.mem_cons, List.not_mem_nil, or_false] at hn; rcases hn with rfl | rfl | rfl <;> first | assumption | exact s64 (by assumption)
          have i1 : ∀ n, n ∈ [siz, age, mos] → in64 n := by intro n hn; simp only [List.mem_cons, List.not_mem_nil, or_false] at hn; rcases hn with rfl | rfl | rfl <;> assumption
          have i2 : ∀ n, n ∈ [rat, bur] → in64 n := by intro n hn; simp only [List.mem_cons, List.not_mem_nil, or_false] at hn; rcases hn with rfl | rfl <;> assumption
          have i3 : ∀ n, n ∈ [ses, tok] → in64 n := by intro n hn; simp only [List.mem_cons, List.not_mem_nil, or_false] at hn; rcases hn with rfl | rfl <;> first | assumption | exact s64 (by assumption)
          have o0 : okN 0 [seed, del, ahe] = true := h3
          have o3 : okN 3 [ses, tok] = true := by show (smallI ses && smallI tok) = true; rw [h1, h2]; rfl
          have e : u = accL (headW 0) [seed, del, ahe] ++ 10 :: (accL (headW 1) [siz, age, mos] ++ 10 :: (accL (headW 2) [rat, bur] ++ 10 :: (accL (headW 3) [ses, tok] ++ 10 :: r))) := by
            rw [hr]
            simp [headT, headP, headL, headN]
          rw [e, lineS_line (hl_noten rfl o0 i0), lineS_line (hl_noten (i := 1) rfl rfl i1), lineS_line (hl_noten (i := 2) rfl rfl i2), lineS_line (hl_noten (i := 3) rfl o3 i3)]
          have st : ∀ (hs : List (List Int)) (i : Nat) (ns : List Int), hs.length = i → i < 4 → hlL i (accL (headW i) ns) = some ns → stepP (hs, []) (accL (headW i) ns) = .ok (hs ++ [ns], []) := by
            intro hs i ns hl4 hi hh
            subst hl4
            unfold stepP
            rw [if_pos hi]
            dsimp only
            rw [hh]
          rw [parseF, st [] 0 _ rfl (by omega) (hl_of rfl o0 i0)]
          dsimp only
          rw [parseF, st _ 1 _ rfl (by omega) (hl_of rfl rfl i1)]
          dsimp only
          rw [parseF, st _ 2 _ rfl (by omega) (hl_of rfl rfl i2)]
          dsimp only
          rw [parseF, st _ 3 _ rfl (by omega) (hl_of rfl o3 i3)]
          dsimp only
          rw [hq _ _ _ (by simp) (by simp; omega)]
          rfl
/-- Lines, each with its end. -/
def flatT : List (List UInt8) → List UInt8
  | [] => []
  | l :: r => l ++ 10 :: flatT r
theorem flatT_snoc : ∀ (ls : List (List UInt8)) (l : List UInt8), flatT (ls ++ [l]) = flatT ls ++ (l ++ [10])
  | [], l => by simp [flatT]
  | x :: ls, l => by rw [List.cons_append, flatT, flatT, flatT_snoc ls l]; simp
theorem lineS_flat : ∀ (t : List UInt8), (∀ l, l ∈ lineS t → (10 : UInt8) ∉ l) → flatT (lineS t) = t
  | [], _ => rfl
  | c :: r, h => by
    rw [lineS] at h ⊢
    by_cases hc : c = 10
    · rw [if_pos hc] at h ⊢
      rw [flatT, lineS_flat r (fun l hl => h l (by simp [hl])), hc]
      rfl
    · rw [if_neg hc] at h ⊢
      cases hr : lineS r with
      | nil =>
        rw [hr] at h
        exact absurd (by simp) (h [c, 10] (by simp))
      | cons a b =>
        rw [hr] at h
        dsimp only at h ⊢
        have h2 := lineS_flat r (fun l hl => by
          rw [hr] at hl
          rcases List.mem_cons.1 hl with rfl | hl
          · intro hm
            exact h (c :: l) (by simp) (by simp [hm])
          · exact h l (by simp [hl]))
        rw [hr, flatT] at h2
        rw [flatT, List.cons_append, h2]
def hdL (hs : List (List Int)) (i : Nat) : List UInt8 := accL (headW i) (hs.getD i [])
theorem headP_congr {L M : Nat → List UInt8} : ∀ (n : Nat), (∀ i, i < n → L i = M i) → headP L n = headP M n
  | 0, _ => rfl
  | n + 1, h => by rw [headP, headP, headP_congr n (fun i hi => h i (by omega)), h n (by omega)]
theorem headP_snoc (hs : List (List Int)) (ns : List Int) : headP (hdL (hs ++ [ns])) (hs ++ [ns]).length = headP (hdL hs) hs.length ++ (accL (headW hs.length) ns ++ [10]) := by
  rw [List.length_append, List.length_singleton, headP, headP_congr (M := hdL hs) hs.length (fun i hi => by unfold hdL; rw [List.getD_eq_getElem?_getD, List.getD_eq_getElem?_getD, List.getElem?_append_left hi])]
  congr 2
  unfold hdL
  rw [List.getD_eq_getElem?_getD, List.getElem?_append_right (Nat.le_refl _), Nat.sub_self]
  rfl
/-- What is read so far, as a text. -/
def TxI (s : PSt) (pre : List (List UInt8)) : Prop := actsT (headP (hdL s.1) s.1.length) s.2 = some (flatT pre) ∧ (s.1.length < 4 → s.2 = [])
theorem TxI.next {s t : PSt} {pre : List (List UInt8)} {l : List UInt8} (h : TxI s pre) (hs : stepP s l = .ok t) : TxI t (pre ++ [l]) := by
  unfold stepP at hs
  by_cases h4 : s.1.length < 4
  · rw [if_pos h4] at hs
    cases hq : hlL s.1.length l with
    | none => rw [hq] at hs; cases hs
    | some ns =>
      rw [hq] at hs
      simp only [Except.ok.injEq] at hs
      subst hs
      have h2 := h.1
      rw [h.2 h4] at h2
      simp only [actsT, Option.some.injEq] at h2
      refine ⟨?_, fun _ => h.2 h4⟩
      rw [h.2 h4]
      simp only [actsT, Option.some.injEq]
      rw [headP_snoc, h2, flatT_snoc, ← hl_acc hq]
  · rw [if_neg h4] at hs
    cases hq : parseL l with
    | none => rw [hq] at hs; cases hs
    | some x =>
      rw [hq] at hs
      by_cases h40 : 4096 ≤ s.2.length
      · simp [h40] at hs
      · simp only [if_neg h40, Except.ok.injEq] at hs
        subst hs
        exact ⟨by rw [flatT_snoc]; exact actsT_more h.1 (parse_acc hq), fun hh => absurd hh h4⟩
theorem parseF_txt : ∀ (ls : List (List UInt8)) (s t : PSt) (k : Nat) (pre : List (List UInt8)), parseF s k ls = .ok t → TxI s pre → TxI t (pre ++ ls) ∧ ∀ l, l ∈ ls → (10 : UInt8) ∉ l
  | [], s, t, k, pre, h, hi => by
    rw [parseF] at h
    by_cases h4 : s.1.length < 4
    · rw [if_pos h4] at h; cases h
    · rw [if_neg h4] at h
      simp only [Except.ok.injEq] at h
      subst h
      exact ⟨by rwa [List.append_nil], fun l hl => by simp at hl⟩
  | l :: r, s, t, k, pre, h, hi => by
    rw [parseF] at h
    cases hs : stepP s l with
    | error e => rw [hs] at h; cases h
    | ok u =>
      rw [hs] at h
      obtain ⟨h1, h2⟩ := parseF_txt r u t (k + 1) (pre ++ [l]) h (hi.next hs)
      refine ⟨by rw [List.append_assoc] at h1; exact h1, fun x hx => ?_⟩
      rcases List.mem_cons.1 hx with rfl | hx
      · intro hm
        rw [step_ten s hm] at hs
        cases hs
      · exact h2 x hx
/-- What is read is printed. -/
theorem parse_print {text : List UInt8} {s : PSt} (h : parseP text = .ok s) :
    printO 0 (headT (gN s.1 3 0) (gN s.1 3 1) (gN s.1 0 0) (gN s.1 0 1) (gN s.1 0 2) (gN s.1 1 0) (gN s.1 1 1) (gN s.1 1 2) (gN s.1 2 0) (gN s.1 2 1)) s.2 = (text, 0) := by
  obtain ⟨hh, hx, h4⟩ := parseP_ok h
  unfold parseP at h
  by_cases hl : 65536 < text.length
  · rw [if_pos hl] at h; cases h
  · rw [if_neg hl] at h
    obtain ⟨h1, h2⟩ := parseF_txt (lineS text) ([], []) s 0 [] h ⟨rfl, fun _ => rfl⟩
    rw [List.nil_append] at h1
    have h3 := h1.1
    rw [lineS_flat text h2, h4] at h3
    have e : headP (hdL s.1) 4 = headT (gN s.1 3 0) (gN s.1 3 1) (gN s.1 0 0) (gN s.1 0 1) (gN s.1 0 2) (gN s.1 1 0) (gN s.1 1 1) (gN s.1 1 2) (gN s.1 2 0) (gN s.1 2 1) := by
      obtain ⟨hs, xs⟩ := s
      dsimp only at *
      match hs, h4 with
      | [n0, n1, n2, n3], _ =>
        obtain ⟨l0, _, _⟩ := hh.2 0 n0 rfl
        obtain ⟨l1, _, _⟩ := hh.2 1 n1 rfl
        obtain ⟨l2, _, _⟩ := hh.2 2 n2 rfl
        obtain ⟨l3, _, _⟩ := hh.2 3 n3 rfl
        match n0, l0, n1, l1, n2, l2, n3, l3 with
        | [a, b, c], _, [d, e, f], _, [p, q], _, [i, j], _ => rfl
    rw [← e]
    unfold printO
    rw [if_neg (by simp), if_neg (by have := hx.1; omega), h3, printS, if_neg hl]
theorem parseF_err : ∀ (ls : List (List UInt8)) (s : PSt) (k : Nat) (n c : Int), parseF s k ls = .error (n, c) → c ≠ 0
  | [], s, k, n, c, h => by
    rw [parseF] at h
    by_cases h4 : s.1.length < 4
    · rw [if_pos h4] at h
      simp only [Except.error.injEq, Prod.mk.injEq] at h
      omega
    · rw [if_neg h4] at h; cases h
  | l :: r, s, k, n, c, h => by
    rw [parseF] at h
    cases hs : stepP s l with
    | error e =>
      rw [hs] at h
      simp only [Except.error.injEq, Prod.mk.injEq] at h
      obtain ⟨_, rfl⟩ := h
      unfold stepP at hs
      by_cases h4 : s.1.length < 4
      · rw [if_pos h4] at hs
        cases hq : hlL s.1.length l with
        | none => rw [hq] at hs; simp only [Except.error.injEq] at hs; omega
        | some ns => rw [hq] at hs; cases hs
      · rw [if_neg h4] at hs
        cases hq : parseL l with
        | none => rw [hq] at hs; simp only [Except.error.injEq] at hs; omega
        | some x =>
          rw [hq] at hs
          by_cases h40 : 4096 ≤ s.2.length
          · simp [h40] at hs; omega
          · simp [h40] at hs
    | ok u =>
      rw [hs] at h
      exact parseF_err r u (k + 1) n c h
theorem parseP_err {text : List UInt8} {n c : Int} (h : parseP text = .error (n, c)) : c ≠ 0 := by
  unfold parseP at h
  by_cases hl : 65536 < text.length
  · rw [if_pos hl] at h
    simp only [Except.error.injEq, Prod.mk.injEq] at h
    omega
  · rw [if_neg hl] at h
    exact parseF_err _ _ _ _ _ h
end Go.Proofs.YtdfbofkdlgfblaaDoor
namespace Go.Proofs.YtdfbofkdlgfblaaDoor
open Go Go.RowKit
theorem sm_of {a : Int} (h : 0 ≤ a ∧ a < 4294967296) : smallI a = true := by
  simp only [smallI, Bool.and_eq_true, decide_eq_true_eq]
  exact h
set_option maxRecDepth 100000 in
set_option maxHeartbeats 12800000 in
theorem back_law (ses tok seed loc del ahe siz age mos rat bur : Int) (a : Option Addr) (c : Nat) (xs : List (List Int)) (text : List UInt8) (m : Int) (w : World) (ha : AcR w a xs)
    (h1 : smallI ses = true) (h2 : smallI tok = true) (h3 : smallI seed = true) (h4 : in64 del) (h5 : in64 ahe) (h6 : in64 siz) (h7 : in64 age) (h8 : in64 mos) (h9 : in64 rat) (h10 : in64 bur)
    (hm : w.cell? ⟨0, 0, none⟩ = some (.int .i64 m)) :
    Calls Tryd.prog 7 #[.agg (scL ses tok seed loc del ahe siz age mos rat bur a xs.length c).toArray, txt text] w fun e w' => e = .returned (.bool true) ∧ Kept [] w w' := by
  have s64 : ∀ {n : Int}, smallI n = true → in64 n := fun h => by
    simp only [smallI, Bool.and_eq_true, decide_eq_true_eq] at h
    unfold in64
    omega
  have HM := hx (fun w1 (hk : Kept [] w w1) => by rw [hk.cell (World.block_lt_of_cell? _ _ hm) (by simp)]; exact hm : ∀ w1, Kept [] w w1 → w1.cell? ⟨0, 0, none⟩ = some (.int .i64 m))
  have HA := hx (fun w1 (hk : Kept [] w w1) => awake_any m w1 (HM.out w1 hk))
  have HP := hx (fun w1 (hk : Kept [] w w1) => pprint_any ses tok seed loc del ahe siz age mos rat bur a c xs w1 (ha.kept hk) (s64 h1) (s64 h2) (s64 h3) h4 h5 h6 h7 h8 h9 h10 (small_wrap h3) (small_wrap h1) (small_wrap h2))
  have HQ := hx (fun w1 (hk : Kept [] w w1) => pparse_any text m w1 (HM.out w1 hk))
  have HXR := hx (fun w1 (hk : Kept [] w w1) => ha.kept hk)
  obtain ⟨t, e0, hte⟩ : ∃ t e0, printO loc (headT ses tok seed del ahe siz age mos rat bur) xs = (t, e0) := ⟨_, _, rfl⟩
  have HPP := hx (fun (h0 : e0 = 0) => print_parse (by rw [hte, h0] : printO loc (headT ses tok seed del ahe siz age mos rat bur) xs = (t, 0)) h1 h2 h3 h4 h5 h6 h7 h8 h9 h10 ha.six)
  rw [hte] at HP
  dsimp only at HP
  have HPT := hx (fun w1 (hk : Kept [] w w1) => pparse_any t m w1 (HM.out w1 hk))
  generalize hn : xs.length = n at *
  have HN := hx hn
  clear hn ha hm hte h1 h2 h3 h4 h5 h6 h7 h8 h9 h10 s64
  have HB := hx (Blk.new w (scL ses tok seed loc del ahe siz age mos rat bur a n c) 46)
  show Calls _ _ #[.agg #[.int .u32 ses, .int .u32 tok, .int .u32 seed, .int .i64 loc, .int .i64 del, .int .i64 ahe, .int .i64 siz, .int .i64 age, .int .i64 mos, .int .i64 rat, .int .i64 bur, .slice a n c], txt text] w _
  go_enter Tryd.func7, Tryd.ntmps7
  go_upto_region 3 with (go_at_call 8; refine (HA.out _ ((Kept.refl [] w).alloc _)).mono ?_; rintro e w1 ⟨rfl, hk⟩; have K1 := hx (((Kept.refl [] w).alloc _).trans0 hk); have HB1 := hx (hk.blk HB.out (by simp)); clear hk)
  have c11 := HB1.out.cell (i := 11) rfl
  generalize w.heap.size = b0 at *
  by_cases hbig : (1000 : Int) < (n : Int)
  · go_wp2_with fail
    go_ret
    exact ⟨rfl, K1.out⟩
  · by_cases hbt : (5000 : Int) < (text.length : Int)
    · go_wp2_with fail
      go_ret
      exact ⟨rfl, K1.out⟩
    · go_upto_region 6 with (first
        | (refine load_blk rfl 46 (.tmp 2) rfl b0 rfl 46 _ _ HB1.out Tryd.underlying46 rfl (by kernel_rfl) ?_)
        | (go_at_call 17; refine (HP.out _ K1.out).mono ?_; rintro e w2 ⟨rfl, hk⟩; have K2 := hx (K1.out.trans0 hk); have HB2 := hx (hk.blk HB1.out (by simp)); clear hk))
      clear c11
      by_cases he0 : e0 = 0
      · obtain ⟨hl0, hpt⟩ := HPP.out he0
        subst he0
        subst hl0
        rw [hpt] at HPT
        have HSM := hx (fun (w1 : World) (b : Option Addr) (d : Nat) (hb : AcR w1 b xs) (hk : Kept [] w w1) (hn5 : n ≤ 5000) => by
          have h := same_any b a d c xs w1 hb (HXR.out w1 hk) (by rw [HN.out]; exact hn5)
          rw [HN.out] at h
          exact h : ∀ (w1 : World) (b : Option Addr) (d : Nat), AcR w1 b xs → Kept [] w w1 → n ≤ 5000 → Calls Tryd.prog 22 #[.slice b n d, .slice a n c] w1 fun e w' => e = .returned (.bool true) ∧ Kept [] w1 w')
        clear hpt HPP HP HA
        go_upto_region 8 with (first
          | (go_at_call 20; refine (HPT.out _ K2.out).mono ?_; rintro e w3 ⟨hk, b, d, rfl, hb⟩; simp only [cfOf, cfL, gN, List.cons_append, List.nil_append, List.getD_cons_zero, List.getD_cons_succ]; rw [HN.out]; have K3 := hx (K2.out.trans0 hk); have A3 := hx hb; have HB3 := hx (hk.blk HB2.out (by simp)); clear hk hb))
        have B7 := hx (Blk.new w3 [.int .u32 ses, .int .u32 tok, .int .u32 seed, .int .i64 0, .int .i64 del, .int .i64 ahe, .int .i64 siz, .int .i64 age, .int .i64 mos, .int .i64 rat, .int .i64 bur, .slice b n d] 46)
        have B0 := hx (HB3.out.alloc (.cells #[.int .u32 ses, .int .u32 tok, .int .u32 seed, .int .i64 0, .int .i64 del, .int .i64 ahe, .int .i64 siz, .int .i64 age, .int .i64 mos, .int .i64 rat, .int .i64 bur, .slice b n d] 46))
        have A7 := hx (A3.out.kept ((Kept.refl [] w3).alloc (.cells #[.int .u32 ses, .int .u32 tok, .int .u32 seed, .int .i64 0, .int .i64 del, .int .i64 ahe, .int .i64 siz, .int .i64 age, .int .i64 mos, .int .i64 rat, .int .i64 bur, .slice b n d] 46)))
        have K7 := hx (K3.out.alloc (.cells #[.int .u32 ses, .int .u32 tok, .int .u32 seed, .int .i64 0, .int .i64 del, .int .i64 ahe, .int .i64 siz, .int .i64 age, .int .i64 mos, .int .i64 rat, .int .i64 bur, .slice b n d] 46))
        clear HB HB1 HB2 HB3 A3 K3 K2 K1
        generalize World.alloc w3 _ = W3 at *
        generalize w3.heap.size = z at *
        dsimp only at A7
        have n5 : n ≤ 5000 := by omega
        have c0 := B7.out.cell (i := 0) rfl
        have d0 := B0.out.cell (i := 0) rfl
        have c1 := B7.out.cell (i := 1) rfl
        have d1 := B0.out.cell (i := 1) rfl
        have c2 := B7.out.cell (i := 2) rfl
        have d2 := B0.out.cell (i := 2) rfl
        have c3 := B7.out.cell (i := 3) rfl
        have d3 := B0.out.cell (i := 3) rfl
        have c4 := B7.out.cell (i := 4) rfl
        have d4 := B0.out.cell (i := 4) rfl
        have c5 := B7.out.cell (i := 5) rfl
        have d5 := B0.out.cell (i := 5) rfl
        have c6 := B7.out.cell (i := 6) rfl
        have d6 := B0.out.cell (i := 6) rfl
        have c7 := B7.out.cell (i := 7) rfl
        have d7 := B0.out.cell (i := 7) rfl
        have c8 := B7.out.cell (i := 8) rfl
        have d8 := B0.out.cell (i := 8) rfl
        have c9 := B7.out.cell (i := 9) rfl
        have d9 := B0.out.cell (i := 9) rfl
        have c10 := B7.out.cell (i := 10) rfl
        have d10 := B0.out.cell (i := 10) rfl
        have c11 := B7.out.cell (i := 11) rfl
        have d11 := B0.out.cell (i := 11) rfl
        go_upto_region 10 with (go_at_call 22; refine (HSM.out _ b d A7.out K7.out n5).mono ?_; rintro e w4 ⟨rfl, hk⟩; have K9 := hx (K7.out.trans0 hk); clear hk)
        clear c0 d0 c1 d1 c2 d2 c3 d3 c4 d4 c5 d5 c6 d6 c7 d7 c8 d8 c9 d9 c10 d10 c11 d11
        cases hpp : parseP text with
        | error ec =>
          obtain ⟨n2, c2⟩ := ec
          have hc2 := parseP_err hpp
          rw [hpp] at HQ
          clear hpp
          go_wp2_with (first
            | (go_at_call 20; refine (HQ.out _ K9.out).mono ?_; rintro e w8 ⟨hk, rfl⟩; simp only [scV, cfL, List.cons_append, List.nil_append]; have K8 := hx (K9.out.trans0 hk); clear hk))
          go_ret
          exact ⟨rfl, K8.out.alloc _⟩
        | ok s =>
          obtain ⟨hh, hxs, hl4⟩ := parseP_ok hpp
          obtain ⟨g0, g1, g2⟩ := gN_small hh
          have HPB := hx (fun (w1 : World) (b : Option Addr) (d : Nat) (hb : AcR w1 b s.2) => by
            have h := pprint_any (gN s.1 3 0) (gN s.1 3 1) (gN s.1 0 0) 0 (gN s.1 0 1) (gN s.1 0 2) (gN s.1 1 0) (gN s.1 1 1) (gN s.1 1 2) (gN s.1 2 0) (gN s.1 2 1) b d s.2 w1 hb (gN_in hh _ _) (gN_in hh _ _) (gN_in hh _ _) (gN_in hh _ _) (gN_in hh _ _) (gN_in hh _ _) (gN_in hh _ _) (gN_in hh _ _) (gN_in hh _ _) (gN_in hh _ _) (small_wrap g0) (small_wrap g1) (small_wrap g2)
            rw [parse_print hpp] at h
            exact h : ∀ (w1 : World) (b : Option Addr) (d : Nat), AcR w1 b s.2 → Calls Tryd.prog 17 #[.agg #[.int .u32 (gN s.1 3 0), .int .u32 (gN s.1 3 1), .int .u32 (gN s.1 0 0), .int .i64 0, .int .i64 (gN s.1 0 1), .int .i64 (gN s.1 0 2), .int .i64 (gN s.1 1 0), .int .i64 (gN s.1 1 1), .int .i64 (gN s.1 1 2), .int .i64 (gN s.1 2 0), .int .i64 (gN s.1 2 1), .slice b s.2.length d]] w1 fun e w' => e = .returned (.tuple #[txt text, .int .i64 0]) ∧ Kept [] w1 w')
          rw [hpp] at HQ
          clear hpp hh hl4 g0 g1 g2
          generalize hsl : s.2.length = sl at *
          have HSL := hx hsl
          clear hsl hxs
          go_wp2_with (first
            | (go_at_call 20; refine (HQ.out _ K9.out).mono ?_; rintro e w8 ⟨hk, b, d, rfl, hb⟩; simp only [cfOf, cfL, List.cons_append, List.nil_append]; rw [HSL.out]; have K8 := hx (K9.out.trans0 hk); have A8 := hx hb; clear hk hb)
            | (go_at_call 17; refine (HPB.out _ b d (A8.out.kept ((Kept.refl [] w8).alloc _))).mono ?_; rintro e w9 ⟨rfl, hk⟩; have K9 := hx ((K8.out.alloc _).trans0 hk); clear hk))
          go_ret
          exact ⟨rfl, K9.out⟩
      · clear HPP HPT
        cases hpp : parseP text with
        | error ec =>
          obtain ⟨n2, c2⟩ := ec
          have hc2 := parseP_err hpp
          rw [hpp] at HQ
          clear hpp
          go_wp2_with (first
            | (go_at_call 20; refine (HQ.out _ K2.out).mono ?_; rintro e w8 ⟨hk, rfl⟩; simp only [scV, cfL, List.cons_append, List.nil_append]; have K8 := hx (K2.out.trans0 hk); clear hk))
          go_ret
          exact ⟨rfl, K8.out.alloc _⟩
        | ok s =>
          obtain ⟨hh, hxs, hl4⟩ := parseP_ok hpp
          obtain ⟨g0, g1, g2⟩ := gN_small hh
          have HPB := hx (fun (w1 : World) (b : Option Addr) (d : Nat) (hb : AcR w1 b s.2) => by
            have h := pprint_any (gN s.1 3 0) (gN s.1 3 1) (gN s.1 0 0) 0 (gN s.1 0 1) (gN s.1 0 2) (gN s.1 1 0) (gN s.1 1 1) (gN s.1 1 2) (gN s.1 2 0) (gN s.1 2 1) b d s.2 w1 hb (gN_in hh _ _) (gN_in hh _ _) (gN_in hh _ _) (gN_in hh _ _) (gN_in hh _ _) (gN_in hh _ _) (gN_in hh _ _) (gN_in hh _ _) (gN_in hh _ _) (gN_in hh _ _) (small_wrap g0) (small_wrap g1) (small_wrap g2)
            rw [parse_print hpp] at h
            exact h : ∀ (w1 : World) (b : Option Addr) (d : Nat), AcR w1 b s.2 → Calls Tryd.prog 17 #[.agg #[.int .u32 (gN s.1 3 0), .int .u32 (gN s.1 3 1), .int .u32 (gN s.1 0 0), .int .i64 0, .int .i64 (gN s.1 0 1), .int .i64 (gN s.1 0 2), .int .i64 (gN s.1 1 0), .int .i64 (gN s.1 1 1), .int .i64 (gN s.1 1 2), .int .i64 (gN s.1 2 0), .int .i64 (gN s.1 2 1), .slice b s.2.length d]] w1 fun e w' => e = .returned (.tuple #[txt text, .int .i64 0]) ∧ Kept [] w1 w')
          rw [hpp] at HQ
          clear hpp hh hl4 g0 g1 g2
          generalize hsl : s.2.length = sl at *
          have HSL := hx hsl
          clear hsl hxs
          go_wp2_with (first
            | (go_at_call 20; refine (HQ.out _ K2.out).mono ?_; rintro e w8 ⟨hk, b, d, rfl, hb⟩; simp only [cfOf, cfL, List.cons_append, List.nil_append]; rw [HSL.out]; have K8 := hx (K2.out.trans0 hk); have A8 := hx hb; clear hk hb)
            | (go_at_call 17; refine (HPB.out _ b d (A8.out.kept ((Kept.refl [] w8).alloc _))).mono ?_; rintro e w9 ⟨rfl, hk⟩; have K9 := hx ((K8.out.alloc _).trans0 hk); clear hk))
          go_ret
          exact ⟨rfl, K9.out⟩

end Go.Proofs.YtdfbofkdlgfblaaDoor
