/- The program's matrices: clear. Printed by k/gen_matk.py. -/
import Derived.Test.YtjgnngnknhkpmaaMatJ
namespace Go.Proofs.Ytjgnngnknhkpmaa
open Go Go.RowKit
theorem scaleL_len (v : Nat) (s : List Nat) : (scaleL v s).length = s.length := by simp [scaleL]
theorem scaleL_oct (v : Nat) (s : List Nat) : Oct (scaleL v s) := by
  intro x hx
  simp only [scaleL, List.mem_map] at hx
  obtain ⟨y, _, rfl⟩ := hx
  exact gmul_lt _ _
theorem row_bn {w : World} {b r c : Nat} {m : List (List Nat)} {rest : List Value} (hb : Blk w b (cellsM m rest) 5) (hm : Mt r c m) {i : Nat} (hi : i < r) : Bn w (some ⟨b, i * c, none⟩) (rw m i) := fun j hj =>
  ⟨b, i * c, rfl, row_cells hb hm hi j (by rw [hm.len hi] at hj; exact hj)⟩
theorem blk_bn {w : World} {g : Nat} {s : List Nat} (hb : Blk w g (s.map bn) 5) (i : Nat) (hi : i < s.length) : w.cell? ⟨g, 0 + i, none⟩ = some (bn (s.getD i 0)) := by
  rw [Nat.zero_add, hb.cell?_at, List.getElem?_map, List.getElem?_eq_getElem hi, List.getD_eq_getElem?_getD, List.getElem?_eq_getElem hi]
  rfl
/-- What clear has at hand. -/
structure ClS (w wr : World) (r c bm capm bo capo : Nat) (M O : List (List Nat)) (restm resto : List Value) : Prop where
  r5 : Blk wr w.heap.size [.int .i64 (r : Int), .int .i64 (c : Int), .slice (some ⟨bm, 0, none⟩) (r * c) capm] 41
  r7 : Blk wr (w.heap.size + 1) [.int .i64 (r : Int), .int .i64 (c : Int), .slice (some ⟨bo, 0, none⟩) (r * c) capo] 41
  bM : Blk wr bm (cellsM M restm) 5
  bO : Blk wr bo (cellsM O resto) 5
  mM : Mt r c M
  mO : Mt r c O
  k : Kept [bm, bo] w wr
  lm : bm < w.heap.size
  lo : bo < w.heap.size
theorem ClS.kept {w wr w2 : World} {r c bm capm bo capo : Nat} {M O : List (List Nat)} {restm resto : List Value} (s : ClS w wr r c bm capm bo capo M O restm resto) (hk : Kept [] wr w2) : ClS w w2 r c bm capm bo capo M O restm resto :=
  ⟨hk.blk s.r5 (by simp), hk.blk s.r7 (by simp), hk.blk s.bM (by simp), hk.blk s.bO (by simp), s.mM, s.mO, s.k.trans hk (fun _ h => h) (fun x hx => by simp at hx), s.lm, s.lo⟩
theorem ClS.newM {w wr w2 : World} {r c bm capm bo capo : Nat} {M O M' : List (List Nat)} {restm resto : List Value} (s : ClS w wr r c bm capm bo capo M O restm resto) (hb : Blk w2 bm (cellsM M' restm) 5) (hm : Mt r c M') (hk : Kept [bm] wr w2) (hne : bm ≠ bo) : ClS w w2 r c bm capm bo capo M' O restm resto := by
  have h1 := s.lm
  have h2 := s.lo
  exact ⟨hk.blk s.r5 (by simp; omega), hk.blk s.r7 (by simp; omega), hb, hk.blk s.bO (by simp; omega), hm, s.mO, s.k.trans hk (fun _ h => h) (fun x hx => by simp at hx; left; simp [hx]), s.lm, s.lo⟩
theorem ClS.newO {w wr w2 : World} {r c bm capm bo capo : Nat} {M O O' : List (List Nat)} {restm resto : List Value} (s : ClS w wr r c bm capm bo capo M O restm resto) (hb : Blk w2 bo (cellsM O' resto) 5) (hm : Mt r c O') (hk : Kept [bo] wr w2) (hne : bm ≠ bo) : ClS w w2 r c bm capm bo capo M O' restm resto := by
  have h1 := s.lm
  have h2 := s.lo
  exact ⟨hk.blk s.r5 (by simp; omega), hk.blk s.r7 (by simp; omega), hk.blk s.bM (by simp; omega), hb, s.mM, hm, s.k.trans hk (fun _ h => h) (fun x hx => by simp at hx; left; simp [hx]), s.lm, s.lo⟩
theorem ClS.putM {w wr : World} {r c bm capm bo capo k : Nat} {M O : List (List Nat)} {x : List Nat} {restm resto : List Value} (s : ClS w wr r c bm capm bo capo M O restm resto) (hk : k < r) (hx : x.length = c) (ho : Oct x) (hne : bm ≠ bo) : ClS w (wr.setCells bm (k * c) (x.map bn)) r c bm capm bo capo (M.set k x) O restm resto :=
  s.newM (by rw [← cellsM_put s.mM restm hk hx ho]; exact s.bM.setCells _ _) (s.mM.set k hx ho) ((Kept.refl [bm] wr).setCells (.inl (by simp)) _ _) hne
theorem ClS.putO {w wr : World} {r c bm capm bo capo k : Nat} {M O : List (List Nat)} {x : List Nat} {restm resto : List Value} (s : ClS w wr r c bm capm bo capo M O restm resto) (hk : k < r) (hx : x.length = c) (ho : Oct x) (hne : bm ≠ bo) : ClS w (wr.setCells bo (k * c) (x.map bn)) r c bm capm bo capo M (O.set k x) restm resto :=
  s.newO (by rw [← cellsM_put s.mO resto hk hx ho]; exact s.bO.setCells _ _) (s.mO.set k hx ho) ((Kept.refl [bo] wr).setCells (.inl (by simp)) _ _) hne
/-- One row that is not the pivot's. -/
def clrStep (at_ col k : Nat) (p : List (List Nat) × List (List Nat)) : List (List Nat) × List (List Nat) :=
  if k = at_ then p else (p.1.set k (mixL ((rw p.1 k).getD col 0) (rw p.1 k) (rw p.1 at_)), p.2.set k (mixL ((rw p.1 k).getD col 0) (rw p.2 k) (rw p.2 at_)))
def clrS (at_ col : Nat) (p : List (List Nat) × List (List Nat)) : Nat → List (List Nat) × List (List Nat)
  | 0 => p
  | k + 1 => clrStep at_ col k (clrS at_ col p k)
def scl (at_ col : Nat) (p : List (List Nat) × List (List Nat)) : List (List Nat) × List (List Nat) :=
  (p.1.set at_ (scaleL (ginv ((rw p.1 at_).getD col 0)) (rw p.1 at_)), p.2.set at_ (scaleL (ginv ((rw p.1 at_).getD col 0)) (rw p.2 at_)))
def clrM (r at_ col : Nat) (p : List (List Nat) × List (List Nat)) : List (List Nat) × List (List Nat) := clrS at_ col (scl at_ col p) r
set_option maxRecDepth 100000 in
set_option maxHeartbeats 8000000 in
theorem clear_any (t r c bm capm bo capo k0 col : Nat) (M O : List (List Nat)) (restm resto : List Value) (w : World) (hT : Blk w t (tabC 255) 73) (hbm : Blk w bm (cellsM M restm) 5) (hbo : Blk w bo (cellsM O resto) 5) (hM : Mt r c M) (hO : Mt r c O)
    (hr : r ≤ 255) (hc : c ≤ 255) (hk0 : k0 < r) (hcol : col < c) (hcm : r * c ≤ capm) (hco : r * c ≤ capo) (hne : bm ≠ bo) (htm : t ≠ bm) (hto : t ≠ bo) (hpv : (rw M k0).getD col 0 ≠ 0) :
    Calls Try.prog 50 #[mv bm r c capm, .pointer (some ⟨t, 0, none⟩), mv bo r c capo, .int .i64 k0, .int .i64 col] w fun e w' => e = .returned (.tuple #[]) ∧ Blk w' bm (cellsM (clrM r k0 col (M, O)).1 restm) 5 ∧ Blk w' bo (cellsM (clrM r k0 col (M, O)).2 resto) 5 ∧ Mt r c (clrM r k0 col (M, O)).1 ∧ Mt r c (clrM r k0 col (M, O)).2 ∧ Kept [bm, bo] w w' := by
  have HT := hx hT
  have HNE := hx (show t ≠ bm ∧ t ≠ bo ∧ bm ≠ bo from ⟨htm, hto, hne⟩)
  have HWM := hx (fun i w hi => row_any bm r c capm i w hr hc (by omega) hi hcm)
  have HWO := hx (fun i w hi => row_any bo r c capo i w hr hc (by omega) hi hco)
  have hr1 : (r : Int) ≤ 255 := by omega
  have hcol1 : (col : Int) < (c : Int) := by omega
  have HS := hx (show ClS w ((w.alloc (.cells #[.int .i64 (r : Int), .int .i64 (c : Int), .slice (some ⟨bm, 0, none⟩) (r * c) capm] 41)).alloc (.cells #[.int .i64 (r : Int), .int .i64 (c : Int), .slice (some ⟨bo, 0, none⟩) (r * c) capo] 41)) r c bm capm bo capo M O restm resto from
    ⟨(Blk.new w [.int .i64 (r : Int), .int .i64 (c : Int), .slice (some ⟨bm, 0, none⟩) (r * c) capm] 41).alloc _, by
      have h := Blk.new (w.alloc (.cells #[.int .i64 (r : Int), .int .i64 (c : Int), .slice (some ⟨bm, 0, none⟩) (r * c) capm] 41)) [.int .i64 (r : Int), .int .i64 (c : Int), .slice (some ⟨bo, 0, none⟩) (r * c) capo] 41
      rw [World.size_alloc] at h
      exact h, (hbm.alloc _).alloc _, (hbo.alloc _).alloc _, hM, hO, ((Kept.refl [bm, bo] w).alloc _).alloc _, hbm.lt, hbo.lt⟩)
  have HPV := hx hpv
  unfold mv at *
  clear hT hbm hbo hM hO hcm hco hne htm hto hpv
  go_enter Try.func50, Try.ntmps50
  go_upto_region 1 with fail
  generalize (w.alloc (.cells #[.int .i64 (r : Int), .int .i64 (c : Int), .slice (some ⟨bm, 0, none⟩) (r * c) capm] 41)).alloc (.cells #[.int .i64 (r : Int), .int .i64 (c : Int), .slice (some ⟨bo, 0, none⟩) (r * c) capo] 41) = W at *
  have cM0 := HS.out.r5.cell (i := 0) rfl
  have cM1 := HS.out.r5.cell (i := 1) rfl
  have cM2 := HS.out.r5.cell (i := 2) rfl
  go_wp2_with fail
  refine (HWM.out k0 W hk0).mono ?_
  rintro e w1 ⟨rfl, hk1⟩
  have HS1 := hx (HS.out.kept hk1)
  have cc := row_cells HS1.out.bM HS1.out.mM hk0 col hcol
  have HIV := hx (fun h => gfinv_any t ((rw M k0).getD col 0) w1 (HS1.out.k.blk HT.out (by have h := HNE.out; simp; omega)) h ((HS1.out.mM.rowOct hk0).at col))
  have HVD := hx (show scl k0 col (M, O) = (M.set k0 (scaleL (ginv ((rw M k0).getD col 0)) (rw M k0)), O.set k0 (scaleL (ginv ((rw M k0).getD col 0)) (rw O k0))) from rfl)
  have hv8 := ginv_lt ((rw M k0).getD col 0)
  unfold bn at cc
  obtain ⟨v, hv⟩ : ∃ v, ginv ((rw M k0).getD col 0) = v := ⟨_, rfl⟩
  rw [hv] at HIV HVD hv8
  obtain ⟨pv, hpve⟩ : ∃ pv, (rw M k0).getD col 0 = pv := ⟨_, rfl⟩
  rw [hpve] at HIV HPV cc
  clear HS hk1 cM0 cM1 cM2 hv hpve
  go_wp2_with fail
  refine (HIV.out HPV.out).mono ?_
  rintro e w2 ⟨rfl, nn, rfl⟩
  have HS := hx (HS1.out.kept ((Kept.refl [] w1).drewN nn))
  clear HS1 cc HIV HPV
  go_upto_region 2 with fail
  generalize w1.drewN nn = W at *
  go_cut [34] from 25 to 35 (fun s34 wx => s34 = .int .i64 (c : Int) ∧ ClS w wx r c bm capm bo capo (M.set k0 (scaleL v (rw M k0))) O restm resto)
  case first =>
    have cM0 := HS.out.r5.cell (i := 0) rfl
    have cM1 := HS.out.r5.cell (i := 1) rfl
    have cM2 := HS.out.r5.cell (i := 2) rfl
    have hkd : Kept [] W W.drew := (Kept.refl [] W).drew
    have HR1 := hx (fun w9 (_ : Kept [] W w9) => HWM.out k0 w9 hk0)
    have HSC := hx (fun w9 (hk : Kept [] W w9) => scale_any t v c c (some ⟨bm, k0 * c, none⟩) (rw M k0) w9 (hk.blk (HS.out.k.blk HT.out (by have h := HNE.out; simp; omega)) (by simp)) hv8 (HS.out.mM.len hk0) (HS.out.mM.rowOct hk0) (row_bn (hk.blk HS.out.bM (by simp)) HS.out.mM hk0) (by omega))
    have HCY := hx (fun w9 (hk : Kept [] W w9) g' (hb : Blk w9 g' ((scaleL v (rw M k0)).map bn) 5) => copy_run (c := c) (b := bm) (o := k0 * c) (cap1 := c) (cap2 := c) (b2 := g') (o2 := 0) (s := scaleL v (rw M k0)) (hk.blk HS.out.bM (by simp)) (by rw [scaleL_len]; exact HS.out.mM.len hk0) (by rw [cellsM_len HS.out.mM]; have h := row_end (c := c) hk0; omega) (fun i hi => blk_bn hb i (by rw [scaleL_len, HS.out.mM.len hk0]; exact hi)))
    have flag : True := trivial
    have flagb : True := trivial
    go_upto_region 2 with fail
    go_region_with (first | (have flag2 := flag; clear flag flag2; go_at_call 46; refine (HR1.out _ (by assumption)).mono ?_; rintro e w9 ⟨rfl, hk9⟩; have hkk9 : Kept [] W w9 := Kept.trans0 (by assumption) hk9; have dM0 := kept_cell hkk9 cM0; have dM1 := kept_cell hkk9 cM1; have dM2 := kept_cell hkk9 cM2; clear hk9) | (have flag2 := flagb; clear flagb flag2; go_at_call 46; refine (HR1.out _ (by assumption)).mono ?_; rintro e w9 ⟨rfl, hk9⟩; have hkk9 : Kept [] W w9 := Kept.trans0 (by assumption) hk9; have dM0 := kept_cell hkk9 cM0; have dM1 := kept_cell hkk9 cM1; have dM2 := kept_cell hkk9 cM2; clear hk9) | (go_at_call 56; refine (HSC.out _ (by assumption)).mono ?_; rintro e ws ⟨rfl, hbs, hks⟩; have hkks : Kept [] W ws := Kept.trans0 (by assumption) hks; have hcys := HCY.out ws hkks _ hbs; clear hbs hks))
    all_goals
      have HS2 := hx (ClS.putM (HS.out.kept hkks) hk0 (show (scaleL v (rw M k0)).length = c by rw [scaleL_len]; exact HS.out.mM.len hk0) (scaleL_oct v _) (HNE.out.2.2))
      clear hcys hkks HR1 HSC HCY cM0 cM1 cM2 HS
      go_wp2_with fail
      go_meet
      exact ⟨rfl, HS2.out⟩
  case rest =>
  obtain ⟨rfl, hs⟩ := hcut
  have HSB := hx hs
  clear hs HS
  generalize M.set k0 (scaleL v (rw M k0)) = M1 at *
  go_upto_region 3 with fail
  go_cut [44] from 35 to 45 (fun s44 wx => s44 = .int .i64 (c : Int) ∧ ClS w wx r c bm capm bo capo M1 (O.set k0 (scaleL v (rw O k0))) restm resto)
  case first =>
    have HS := HSB
    clear HSB
    generalize wc = W at *
    have cO0 := HS.out.r7.cell (i := 0) rfl
    have cO1 := HS.out.r7.cell (i := 1) rfl
    have cO2 := HS.out.r7.cell (i := 2) rfl
    have hkd : Kept [] W W.drew := (Kept.refl [] W).drew
    have HR1 := hx (fun w9 (_ : Kept [] W w9) => HWO.out k0 w9 hk0)
    have HSC := hx (fun w9 (hk : Kept [] W w9) => scale_any t v c c (some ⟨bo, k0 * c, none⟩) (rw O k0) w9 (hk.blk (HS.out.k.blk HT.out (by have h := HNE.out; simp; omega)) (by simp)) hv8 (HS.out.mO.len hk0) (HS.out.mO.rowOct hk0) (row_bn (hk.blk HS.out.bO (by simp)) HS.out.mO hk0) (by omega))
    have HCY := hx (fun w9 (hk : Kept [] W w9) g' (hb : Blk w9 g' ((scaleL v (rw O k0)).map bn) 5) => copy_run (c := c) (b := bo) (o := k0 * c) (cap1 := c) (cap2 := c) (b2 := g') (o2 := 0) (s := scaleL v (rw O k0)) (hk.blk HS.out.bO (by simp)) (by rw [scaleL_len]; exact HS.out.mO.len hk0) (by rw [cellsM_len HS.out.mO]; have h := row_end (c := c) hk0; omega) (fun i hi => blk_bn hb i (by rw [scaleL_len, HS.out.mO.len hk0]; exact hi)))
    have flag : True := trivial
    have flagb : True := trivial
    go_upto_region 3 with fail
    go_region_with (first | (have flag2 := flag; clear flag flag2; go_at_call 46; refine (HR1.out _ (by assumption)).mono ?_; rintro e w9 ⟨rfl, hk9⟩; have hkk9 : Kept [] W w9 := Kept.trans0 (by assumption) hk9; have dO0 := kept_cell hkk9 cO0; have dO1 := kept_cell hkk9 cO1; have dO2 := kept_cell hkk9 cO2; clear hk9) | (have flag2 := flagb; clear flagb flag2; go_at_call 46; refine (HR1.out _ (by assumption)).mono ?_; rintro e w9 ⟨rfl, hk9⟩; have hkk9 : Kept [] W w9 := Kept.trans0 (by assumption) hk9; have dO0 := kept_cell hkk9 cO0; have dO1 := kept_cell hkk9 cO1; have dO2 := kept_cell hkk9 cO2; clear hk9) | (go_at_call 56; refine (HSC.out _ (by assumption)).mono ?_; rintro e ws ⟨rfl, hbs, hks⟩; have hkks : Kept [] W ws := Kept.trans0 (by assumption) hks; have hcys := HCY.out ws hkks _ hbs; clear hbs hks))
    all_goals
      have HS2 := hx (ClS.putO (HS.out.kept hkks) hk0 (show (scaleL v (rw O k0)).length = c by rw [scaleL_len]; exact HS.out.mO.len hk0) (scaleL_oct v _) (HNE.out.2.2))
      clear hcys hkks HR1 HSC HCY cO0 cO1 cO2 HS
      go_wp2_with fail
      go_meet
      exact ⟨rfl, HS2.out⟩
  case rest =>
  obtain ⟨rfl, hs⟩ := hcut
  have HSC := hx hs
  clear hs HSB
  generalize O.set k0 (scaleL v (rw O k0)) = O1 at *
  have c50 := HSC.out.r5.cell (i := 0) rfl
  have HC0 := hx (show clrS k0 col (M1, O1) 0 = (M1, O1) from rfl)
  have HCS := hx (fun k => show clrS k0 col (M1, O1) (k + 1) = clrStep k0 col k (clrS k0 col (M1, O1) k) from rfl)
  have HCM := hx (show clrM r k0 col (M, O) = clrS k0 col (M1, O1) r by rw [clrM, HVD.out])
  have hkr : (k0 : Int) < (r : Int) := by omega
  go_wp2_with fail
  go_loopw [47] (fun kv wr => ∃ (k : Nat) (P : List (List Nat) × List (List Nat)), k ≤ r ∧ kv = .int .i64 k ∧ P = clrS k0 col (M1, O1) k ∧ ClS w wr r c bm capm bo capo P.1 P.2 restm resto) (fun kv _ => r - (intOf kv).toNat)
  case atStart => exact ⟨0, _, by omega, rfl, rfl, by rw [HC0.out]; exact HSC.out⟩
  case round =>
    clear HSC c50
    obtain ⟨k, P, hk1, rfl, hp, hs⟩ := hrel
    have HP := hx hp
    have HS := hx hs
    clear hp hs
    by_cases hlt : k < r
    · have hj : (k : Int) < (r : Int) := by omega
      have HCK := hx (HCS.out k)
      rw [← HP.out] at HCK
      by_cases hke : k = k0
      · subst hke
        have hcs : clrStep k col k P = P := by unfold clrStep; rw [if_pos rfl]
        rw [hcs] at HCK
        clear hcs
        go_wp2_with fail
        go_roundw
        case rel => exact ⟨k + 1, P, by omega, by go_num, HCK.out.symm, HS.out⟩
        case measure => simp [intOf] <;> omega
      · have hkb : ((k : Int) == (k0 : Int)) = false := beq_eq_false_iff_ne.2 (by omega)
        have HKN := hx hke
        have hcs : clrStep k0 col k P = (P.1.set k (mixL ((rw P.1 k).getD col 0) (rw P.1 k) (rw P.1 k0)), P.2.set k (mixL ((rw P.1 k).getD col 0) (rw P.2 k) (rw P.2 k0))) := by unfold clrStep; rw [if_neg hke]
        rw [hcs] at HCK
        obtain ⟨Mk, Ok⟩ := P
        simp only at HCK HS
        clear hcs hke
        have cM0 := HS.out.r5.cell (i := 0) rfl
        have cM1 := HS.out.r5.cell (i := 1) rfl
        have cM2 := HS.out.r5.cell (i := 2) rfl
        go_wp2_with fail
        refine (HWM.out k wr hlt).mono ?_
        rintro e w5 ⟨rfl, hk5⟩
        have HS5 := hx (HS.out.kept hk5)
        have cc := row_cells HS5.out.bM HS5.out.mM hlt col hcol
        have hx8 := (HS5.out.mM.rowOct hlt).at col
        unfold bn at cc
        obtain ⟨x, hxx⟩ : ∃ x, (rw Mk k).getD col 0 = x := ⟨_, rfl⟩
        rw [hxx] at HCK cc hx8
        clear HS hk5 cM0 cM1 cM2 hxx
        go_upto_region 9 with fail
        clear cc
        go_cut [67] from 59 to 68 (fun s67 wx => s67 = .tuple #[] ∧ ClS w wx r c bm capm bo capo (Mk.set k (mixL x (rw Mk k) (rw Mk k0))) Ok restm resto)
        case first =>
          have HS := HS5
          clear HS5
          generalize w5 = W at *
          have cM0 := HS.out.r5.cell (i := 0) rfl
          have cM1 := HS.out.r5.cell (i := 1) rfl
          have cM2 := HS.out.r5.cell (i := 2) rfl
          have hkd : Kept [] W W.drew := (Kept.refl [] W).drew
          have HR1 := hx (fun w9 (_ : Kept [] W w9) => HWM.out k w9 hlt)
          have HR2 := hx (fun w9 (_ : Kept [] W w9) => HWM.out k0 w9 hk0)
          have HMX := hx (fun w9 (hk : Kept [] W w9) => mixrow_any (cap1 := c) (cap2 := c) w9 (hk.blk (HS.out.k.blk HT.out (by have h := HNE.out; simp; omega)) (by simp)) hx8 (hk.blk HS.out.bM (by simp)) HS.out.mM hlt (hk.blk HS.out.bM (by simp)) HS.out.mM hk0 (.inr ⟨rfl, rfl, HKN.out⟩) (by have h := HNE.out; omega) hc)
          have flag : True := trivial
          have flagb : True := trivial
          go_upto_region 9 with fail
          go_region_with (first | (have flag2 := flag; clear flag flag2; go_at_call 46; refine (HR1.out _ (by assumption)).mono ?_; rintro e w9 ⟨rfl, hk9⟩; have hkk9 : Kept [] W w9 := Kept.trans0 (by assumption) hk9; have dM0 := kept_cell hkk9 cM0; have dM1 := kept_cell hkk9 cM1; have dM2 := kept_cell hkk9 cM2; clear hk9) | (have flag2 := flagb; clear flagb flag2; go_at_call 46; refine (HR2.out _ (by assumption)).mono ?_; rintro e w9 ⟨rfl, hk9⟩; have hkk9 : Kept [] W w9 := Kept.trans0 (by assumption) hk9; have dM0 := kept_cell hkk9 cM0; have dM1 := kept_cell hkk9 cM1; have dM2 := kept_cell hkk9 cM2; clear hk9) | (go_at_call 51; refine (HMX.out _ (by assumption)).mono ?_; rintro e ws ⟨rfl, hbs, hks⟩; have HS2 := hx ((HS.out.kept (by assumption)).newM hbs (HS.out.mM.set k (by rw [mixL_len _ _ _ (by rw [HS.out.mM.len hlt, HS.out.mM.len hk0])]; exact HS.out.mM.len hlt) (mixL_oct (HS.out.mM.rowOct hlt) (by rw [HS.out.mM.len hlt, HS.out.mM.len hk0]))) hks HNE.out.2.2); clear hbs hks))
          all_goals
            clear HR1 HR2 HMX cM0 cM1 cM2 HS
            go_wp2_with fail
            go_meet
            exact ⟨rfl, HS2.out⟩
        case rest =>
        obtain ⟨rfl, hs⟩ := hcut
        have HS6 := hx hs
        clear hs HS5
        generalize Mk.set k (mixL x (rw Mk k) (rw Mk k0)) = Mn at *
        go_upto_region 10 with fail
        have HS := HS6
        clear HS6
        generalize wc = W at *
        have cO0 := HS.out.r7.cell (i := 0) rfl
        have cO1 := HS.out.r7.cell (i := 1) rfl
        have cO2 := HS.out.r7.cell (i := 2) rfl
        have hkd : Kept [] W W.drew := (Kept.refl [] W).drew
        have HR1 := hx (fun w9 (_ : Kept [] W w9) => HWO.out k w9 hlt)
        have HR2 := hx (fun w9 (_ : Kept [] W w9) => HWO.out k0 w9 hk0)
        have HMX := hx (fun w9 (hk : Kept [] W w9) => mixrow_any (cap1 := c) (cap2 := c) w9 (hk.blk (HS.out.k.blk HT.out (by have h := HNE.out; simp; omega)) (by simp)) hx8 (hk.blk HS.out.bO (by simp)) HS.out.mO hlt (hk.blk HS.out.bO (by simp)) HS.out.mO hk0 (.inr ⟨rfl, rfl, HKN.out⟩) (by have h := HNE.out; omega) hc)
        have flag : True := trivial
        have flagb : True := trivial
        go_upto_region 10 with fail
        go_region_with (first | (have flag2 := flag; clear flag flag2; go_at_call 46; refine (HR1.out _ (by assumption)).mono ?_; rintro e w9 ⟨rfl, hk9⟩; have hkk9 : Kept [] W w9 := Kept.trans0 (by assumption) hk9; have dO0 := kept_cell hkk9 cO0; have dO1 := kept_cell hkk9 cO1; have dO2 := kept_cell hkk9 cO2; clear hk9) | (have flag2 := flagb; clear flagb flag2; go_at_call 46; refine (HR2.out _ (by assumption)).mono ?_; rintro e w9 ⟨rfl, hk9⟩; have hkk9 : Kept [] W w9 := Kept.trans0 (by assumption) hk9; have dO0 := kept_cell hkk9 cO0; have dO1 := kept_cell hkk9 cO1; have dO2 := kept_cell hkk9 cO2; clear hk9) | (go_at_call 51; refine (HMX.out _ (by assumption)).mono ?_; rintro e ws ⟨rfl, hbs, hks⟩; have HS2 := hx ((HS.out.kept (by assumption)).newO hbs (HS.out.mO.set k (by rw [mixL_len _ _ _ (by rw [HS.out.mO.len hlt, HS.out.mO.len hk0])]; exact HS.out.mO.len hlt) (mixL_oct (HS.out.mO.rowOct hlt) (by rw [HS.out.mO.len hlt, HS.out.mO.len hk0]))) hks HNE.out.2.2); clear hbs hks))
        all_goals
          clear HR1 HR2 HMX cO0 cO1 cO2 HS
          go_wp2_with fail
          go_roundw
          case rel => exact ⟨k + 1, (Mn, Ok.set k (mixL x (rw Ok k) (rw Ok k0))), by omega, by go_num, HCK.out.symm, HS2.out⟩
          case measure => simp [intOf] <;> omega
    · obtain rfl : k = r := by omega
      go_wp2_with fail
      go_end0
      rw [HCM.out, ← HP.out]
      exact ⟨rfl, HS.out.bM, HS.out.bO, HS.out.mM, HS.out.mO, HS.out.k⟩
end Go.Proofs.Ytjgnngnknhkpmaa
