/- A script that comes in. -/
import Derived.Test.YtdfbofkdlgfblaaDoorSdC
import Derived.Test.YtdfbofkdlgfblaaDoorScU
import Derived.WideShapes
import Derived.Deep.Slices
namespace Go.Proofs.YtdfbofkdlgfblaaDoor
open Go Go.ChangeShapes Go.WideShapes Go.ChangeAt Go.RowKit Go.Deep
set_option maxRecDepth 100000 in
theorem acs_of {H : Type} {enc : TypeId × Value → H} {w : World} {base : Nat} {held : Bool} {spare : Nat → Bool} {fuel : Nat} {v : Value} {x : DataW H × List MemPlace} (h : DataW.trod enc Tryd.prog w base spare held fuel 44 [v] = some x) :
    ∃ a c xs, v = .slice a xs.length c ∧ AcR w a xs := by
  rcases open_slice Tryd.underlying44 h with ⟨h1, _⟩ | ⟨a, len, cap, m, n, D, Pl, h1, hb, hl, hm, hmm, _, hall⟩
  · exact ⟨none, 0, [], by simpa using h1, fun i x hx => by simp at hx, fun x hx => by simp at hx⟩
  · have hle : len ≤ m := by rw [hmm]; split <;> omega
    have c6 : Tryd.prog.cellsOf 28 = 6 := by kernel_rfl
    have hel : ∀ i, i < len → ∃ x : List Int, (x.length = 6 ∧ ∀ n, n ∈ x → in64 n) ∧ w.cells? base (a.add (i * 6)) 6 = some (ints x) := by
      intro i hi
      obtain ⟨cs, h2, h3⟩ := hall i (by omega)
      rw [c6] at h2
      obtain ⟨x, hx1, hx2, hx3⟩ := act_of (cs := cs) ⟨n, _, h3⟩
      exact ⟨x, ⟨hx2, hx3⟩, by rw [h2, hx1]⟩
    obtain ⟨f, hf⟩ : ∃ f : Nat → List Int, ∀ i, i < len → ((f i).length = 6 ∧ ∀ n, n ∈ f i → in64 n) ∧ w.cells? base (a.add (i * 6)) 6 = some (ints (f i)) :=
      ⟨fun i => if h : i < len then (hel i h).choose else [], fun i hi => by simp only [hi, dif_pos]; exact (hel i hi).choose_spec⟩
    refine ⟨some a, cap, tab len f, by rw [tab_len]; simpa using h1, fun i x hx => ?_, fun x hx => ?_⟩
    · have hi : i < len := by
        have := (List.getElem?_eq_some_iff.1 hx).1
        rwa [tab_len] at this
      rw [tab_get hi] at hx
      simp only [Option.some.injEq] at hx
      subst hx
      have hs : a.spot = none := by
        obtain ⟨h2, h3⟩ := hf 0 (by omega)
        obtain ⟨_, _, h4⟩ := World.cells?_some h3
        obtain ⟨k, p, q, r, s, t, he⟩ := six h2.1
        have h5 := h4 0 (by omega)
        rw [he] at h5
        have h6 := World.cell?_spot h5
        simpa [Addr.add] using h6
      obtain ⟨b, off, spot⟩ := a
      simp at hs
      subst hs
      obtain ⟨h2, h3⟩ := hf i hi
      obtain ⟨_, _, h4⟩ := World.cells?_some h3
      have key : ∀ j v, (ints (f i))[j]? = some v → w.cell? ⟨b, off + i * 6 + j, none⟩ = some v := by
        intro j v hv
        have hj : j < 6 := by
          have := (List.getElem?_eq_some_iff.1 hv).1
          rw [ints_len, h2.1] at this
          exact this
        have h5 := h4 j hj
        rw [add_add] at h5
        rw [hv] at h5
        unfold Addr.add at h5
        split at h5
        · rename_i h0
          rw [← h5]
          congr 2
          omega
        · rw [← h5]
          congr 2
          show off + i * 6 + j = off + (i * 6 + j)
          omega
      refine ⟨b, off, rfl, ?_, key⟩
      obtain ⟨k, p, q, r, s, t, he⟩ := six h2.1
      have h5 := key 0 (.int .i64 k) (by rw [he]; rfl)
      exact World.block_lt_of_cell? _ _ h5
    · obtain ⟨i, hi⟩ := List.mem_iff_getElem?.1 hx
      have hil : i < len := by
        have := (List.getElem?_eq_some_iff.1 hi).1
        rwa [tab_len] at this
      rw [tab_get hil] at hi
      simp only [Option.some.injEq] at hi
      rw [← hi]
      exact (hf i hil).1
/-- A script's cells, out of its reading. -/
theorem u32_wrap {a : Int} (h : (Lit.int .u32 a).wf = true) : in64 a ∧ IntKind.i64.wrap a = a := by
  simp [Lit.wf, IntKind.min, IntKind.max, IntKind.signed, IntKind.bits] at h
  refine ⟨⟨by omega, by omega⟩, ?_⟩
  rw [IntKind.wrap_i64]
  omega
theorem u32_bnd {a : Int} (h : (Lit.int .u32 a).wf = true) : 0 ≤ a ∧ a < 4294967296 := by
  simp [Lit.wf, IntKind.min, IntKind.max, IntKind.signed, IntKind.bits] at h
  omega
set_option maxRecDepth 100000 in
theorem script_of2 {H : Type} {enc : TypeId × Value → H} {w : World} {base : Nat} {sp : Nat → Bool} {held : Bool} {cs : List Value} (h : Rd enc Tryd.prog w base sp held 46 cs) :
    ∃ ses tok seed loc del ahe siz age mos rat bur a c xs, cs = scL ses tok seed loc del ahe siz age mos rat bur a (List.length xs) c ∧ AcR w a xs ∧
      (in64 ses ∧ in64 tok ∧ in64 seed ∧ in64 loc ∧ in64 del ∧ in64 ahe ∧ in64 siz ∧ in64 age ∧ in64 mos ∧ in64 rat ∧ in64 bur) ∧ IntKind.i64.wrap seed = seed ∧ IntKind.i64.wrap ses = ses ∧ IntKind.i64.wrap tok = tok ∧ (0 ≤ seed ∧ seed < 4294967296) ∧ (0 ≤ ses ∧ ses < 4294967296) ∧ (0 ≤ tok ∧ tok < 4294967296) := by
  have hl := h.len Tryd.underlying46
  rw [show Tryd.prog.cellsOf 46 = 12 by kernel_rfl] at hl
  have ci : Tryd.prog.cellsOf 3 = 1 := by kernel_rfl
  have cu : Tryd.prog.cellsOf 37 = 1 := by kernel_rfl
  have cc : Tryd.prog.cellsOf 43 = 11 := by kernel_rfl
  have cg : Tryd.prog.cellsOf 39 = 4 := by kernel_rfl
  have cx : Tryd.prog.cellsOf 41 = 3 := by kernel_rfl
  have ca : Tryd.prog.cellsOf 44 = 1 := by kernel_rfl
  have hc0 : Rd enc Tryd.prog w base sp held 43 ((cs.drop 0).take (Tryd.prog.cellsOf 43)) := h.field Tryd.underlying46 0 _ rfl
  rw [cc] at hc0
  obtain ⟨c1, hc1⟩ : ∃ c1, c1 = (cs.drop 0).take 11 := ⟨_, rfl⟩
  rw [← hc1] at hc0
  have hg0 : Rd enc Tryd.prog w base sp held 39 ((c1.drop 2).take (Tryd.prog.cellsOf 39)) := hc0.field Tryd.underlying43 2 _ rfl
  rw [cg] at hg0
  obtain ⟨c2, hc2⟩ : ∃ c2, c2 = (c1.drop 2).take 4 := ⟨_, rfl⟩
  rw [← hc2] at hg0
  have hx0 : Rd enc Tryd.prog w base sp held 41 ((c1.drop 6).take (Tryd.prog.cellsOf 41)) := hc0.field Tryd.underlying43 3 _ rfl
  rw [cx] at hx0
  obtain ⟨c3, hc3⟩ : ∃ c3, c3 = (c1.drop 6).take 3 := ⟨_, rfl⟩
  rw [← hc3] at hx0
  obtain ⟨ses, e_ses, f_ses⟩ := (hc0.field Tryd.underlying43 0 _ rfl).int Tryd.underlying37
  have g_ses : c1[0]? = some (.int .u32 ses) := at_of (k := 0) (by have h : (c1.drop 0).take (Tryd.prog.cellsOf 37) = [.int .u32 ses] := e_ses; rw [cu] at h; exact h)
  have q_ses : cs[0]? = some (.int .u32 ses) := by rw [hc1] at g_ses; have := at_in g_ses; simpa using this
  obtain ⟨tok, e_tok, f_tok⟩ := (hc0.field Tryd.underlying43 1 _ rfl).int Tryd.underlying37
  have g_tok : c1[1]? = some (.int .u32 tok) := at_of (k := 1) (by have h : (c1.drop 1).take (Tryd.prog.cellsOf 37) = [.int .u32 tok] := e_tok; rw [cu] at h; exact h)
  have q_tok : cs[1]? = some (.int .u32 tok) := by rw [hc1] at g_tok; have := at_in g_tok; simpa using this
  obtain ⟨seed, e_seed, f_seed⟩ := (hg0.field Tryd.underlying39 0 _ rfl).int Tryd.underlying37
  have g_seed : c2[0]? = some (.int .u32 seed) := at_of (k := 0) (by have h : (c2.drop 0).take (Tryd.prog.cellsOf 37) = [.int .u32 seed] := e_seed; rw [cu] at h; exact h)
  have q_seed : cs[2]? = some (.int .u32 seed) := by rw [hc2] at g_seed; have h2 := at_in g_seed; rw [hc1] at h2; have := at_in h2; simpa using this
  obtain ⟨loc, e_loc, f_loc⟩ := (hg0.field Tryd.underlying39 1 _ rfl).int Tryd.underlying3
  have g_loc : c2[1]? = some (.int .i64 loc) := at_of (k := 1) (by have h : (c2.drop 1).take (Tryd.prog.cellsOf 3) = [.int .i64 loc] := e_loc; rw [ci] at h; exact h)
  have q_loc : cs[3]? = some (.int .i64 loc) := by rw [hc2] at g_loc; have h2 := at_in g_loc; rw [hc1] at h2; have := at_in h2; simpa using this
  obtain ⟨del, e_del, f_del⟩ := (hg0.field Tryd.underlying39 2 _ rfl).int Tryd.underlying3
  have g_del : c2[2]? = some (.int .i64 del) := at_of (k := 2) (by have h : (c2.drop 2).take (Tryd.prog.cellsOf 3) = [.int .i64 del] := e_del; rw [ci] at h; exact h)
  have q_del : cs[4]? = some (.int .i64 del) := by rw [hc2] at g_del; have h2 := at_in g_del; rw [hc1] at h2; have := at_in h2; simpa using this
  obtain ⟨ahe, e_ahe, f_ahe⟩ := (hg0.field Tryd.underlying39 3 _ rfl).int Tryd.underlying3
  have g_ahe : c2[3]? = some (.int .i64 ahe) := at_of (k := 3) (by have h : (c2.drop 3).take (Tryd.prog.cellsOf 3) = [.int .i64 ahe] := e_ahe; rw [ci] at h; exact h)
  have q_ahe : cs[5]? = some (.int .i64 ahe) := by rw [hc2] at g_ahe; have h2 := at_in g_ahe; rw [hc1] at h2; have := at_in h2; simpa using this
  obtain ⟨siz, e_siz, f_siz⟩ := (hx0.field Tryd.underlying41 0 _ rfl).int Tryd.underlying3
  have g_siz : c3[0]? = some (.int .i64 siz) := at_of (k := 0) (by have h : (c3.drop 0).take (Tryd.prog.cellsOf 3) = [.int .i64 siz] := e_siz; rw [ci] at h; exact h)
  have q_siz : cs[6]? = some (.int .i64 siz) := by rw [hc3] at g_siz; have h2 := at_in g_siz; rw [hc1] at h2; have := at_in h2; simpa using this
  obtain ⟨age, e_age, f_age⟩ := (hx0.field Tryd.underlying41 1 _ rfl).int Tryd.underlying3
  have g_age : c3[1]? = some (.int .i64 age) := at_of (k := 1) (by have h : (c3.drop 1).take (Tryd.prog.cellsOf 3) = [.int .i64 age] := e_age; rw [ci] at h; exact h)
  have q_age : cs[7]? = some (.int .i64 age) := by rw [hc3] at g_age; have h2 := at_in g_age; rw [hc1] at h2; have := at_in h2; simpa using this
  obtain ⟨mos, e_mos, f_mos⟩ := (hx0.field Tryd.underlying41 2 _ rfl).int Tryd.underlying3
  have g_mos : c3[2]? = some (.int .i64 mos) := at_of (k := 2) (by have h : (c3.drop 2).take (Tryd.prog.cellsOf 3) = [.int .i64 mos] := e_mos; rw [ci] at h; exact h)
  have q_mos : cs[8]? = some (.int .i64 mos) := by rw [hc3] at g_mos; have h2 := at_in g_mos; rw [hc1] at h2; have := at_in h2; simpa using this
  obtain ⟨rat, e_rat, f_rat⟩ := (hc0.field Tryd.underlying43 4 _ rfl).int Tryd.underlying3
  have g_rat : c1[9]? = some (.int .i64 rat) := at_of (k := 9) (by have h : (c1.drop 9).take (Tryd.prog.cellsOf 3) = [.int .i64 rat] := e_rat; rw [ci] at h; exact h)
  have q_rat : cs[9]? = some (.int .i64 rat) := by rw [hc1] at g_rat; have := at_in g_rat; simpa using this
  obtain ⟨bur, e_bur, f_bur⟩ := (hc0.field Tryd.underlying43 5 _ rfl).int Tryd.underlying3
  have g_bur : c1[10]? = some (.int .i64 bur) := at_of (k := 10) (by have h : (c1.drop 10).take (Tryd.prog.cellsOf 3) = [.int .i64 bur] := e_bur; rw [ci] at h; exact h)
  have q_bur : cs[10]? = some (.int .i64 bur) := by rw [hc1] at g_bur; have := at_in g_bur; simpa using this
  have hra : Rd enc Tryd.prog w base sp held 44 ((cs.drop 11).take (Tryd.prog.cellsOf 44)) := h.field Tryd.underlying46 1 _ rfl
  rw [ca] at hra
  obtain ⟨fuel, x, e_a⟩ := hra
  obtain ⟨v, hv⟩ : ∃ v, cs[11]? = some v := ⟨_, List.getElem?_eq_getElem (by omega)⟩
  have hrow : (cs.drop 11).take 1 = [v] := by
    obtain ⟨h1, rfl⟩ := List.getElem?_eq_some_iff.1 hv
    rw [List.drop_eq_getElem_cons h1]
    rfl
  rw [hrow] at e_a
  obtain ⟨a, c, xs, rfl, hac⟩ := acs_of e_a
  refine ⟨ses, tok, seed, loc, del, ahe, siz, age, mos, rat, bur, a, c, xs, ?_, hac, ⟨(u32_wrap f_ses).1, (u32_wrap f_tok).1, (u32_wrap f_seed).1, wf64 f_loc, wf64 f_del, wf64 f_ahe, wf64 f_siz, wf64 f_age, wf64 f_mos, wf64 f_rat, wf64 f_bur⟩, (u32_wrap f_seed).2, (u32_wrap f_ses).2, (u32_wrap f_tok).2, u32_bnd f_seed, u32_bnd f_ses, u32_bnd f_tok⟩
  · clear e_ses g_ses e_tok g_tok e_seed g_seed e_loc g_loc e_del g_del e_ahe g_ahe e_siz g_siz e_age g_age e_mos g_mos e_rat g_rat e_bur g_bur hc0 hg0 hx0 hc1 hc2 hc3 e_a h hrow
    match cs, hl with
    | [v0, v1, v2, v3, v4, v5, v6, v7, v8, v9, v10, v11], _ =>
      simp at q_ses q_tok q_seed q_loc q_del q_ahe q_siz q_age q_mos q_rat q_bur hv
      subst q_ses q_tok q_seed q_loc q_del q_ahe q_siz q_age q_mos q_rat q_bur hv
      rfl
theorem script_of {H : Type} {enc : TypeId × Value → H} {w : World} {base : Nat} {sp : Nat → Bool} {held : Bool} {cs : List Value} (h : Rd enc Tryd.prog w base sp held 46 cs) :
    ∃ ses tok seed loc del ahe siz age mos rat bur a c xs, cs = scL ses tok seed loc del ahe siz age mos rat bur a (List.length xs) c ∧ AcR w a xs ∧
      (in64 ses ∧ in64 tok ∧ in64 seed ∧ in64 loc ∧ in64 del ∧ in64 ahe ∧ in64 siz ∧ in64 age ∧ in64 mos ∧ in64 rat ∧ in64 bur) ∧ IntKind.i64.wrap seed = seed ∧ IntKind.i64.wrap ses = ses ∧ IntKind.i64.wrap tok = tok := by
  obtain ⟨ses, tok, seed, loc, del, ahe, siz, age, mos, rat, bur, a, c, xs, h1, h2, h3, h4, h5, h6, _⟩ := script_of2 h
  exact ⟨ses, tok, seed, loc, del, ahe, siz, age, mos, rat, bur, a, c, xs, h1, h2, h3, h4, h5, h6⟩
end Go.Proofs.YtdfbofkdlgfblaaDoor
