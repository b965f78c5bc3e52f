/- The law of Print. -/
import Derived.Test.YtdfbofkdlgfblaaDoorSdB
import Derived.Test.YtdfbofkdlgfblaaDoorScN
import Derived.Deep.RegionHeld3
namespace Go.Proofs.YtdfbofkdlgfblaaDoor
open Go Go.RowKit
/-- A script's cells. -/
def scL (ses tok seed loc del ahe siz age mos rat bur : Int) (a : Option Addr) (n c : Nat) : List Value := [.int .u32 ses, .int .u32 tok, .int .u32 seed, .int .i64 loc, .int .i64 del, .int .i64 ahe, .int .i64 siz, .int .i64 age, .int .i64 mos, .int .i64 rat, .int .i64 bur, .slice a n c]
theorem sc_range {w : World} {b : Nat} {T : TypeId} {ses tok seed loc del ahe siz age mos rat bur : Int} {a : Option Addr} {n c : Nat} (h : Blk w b (scL ses tok seed loc del ahe siz age mos rat bur a n c) T) : w.rangeAt b 0 (cfL ses tok seed loc del ahe siz age mos rat bur) := fun j v hj => h.cell (by
  rw [Nat.zero_add]
  have hj11 : j < (cfL ses tok seed loc del ahe siz age mos rat bur).length := (List.getElem?_eq_some_iff.1 hj).1
  rw [show scL ses tok seed loc del ahe siz age mos rat bur a n c = cfL ses tok seed loc del ahe siz age mos rat bur ++ [.slice a n c] from rfl, List.getElem?_append_left hj11]
  exact hj)
set_option maxRecDepth 100000 in
set_option maxHeartbeats 12800000 in
theorem prints_law (ses tok seed loc del ahe siz age mos rat bur : Int) (a : Option Addr) (c : Nat) (xs : List (List Int)) (m : Int) (w : World) (ha : AcR w a xs)
    (h0 : in64 ses) (h1 : in64 tok) (h2 : in64 seed) (h4 : in64 del) (h5 : in64 ahe) (h6 : in64 siz) (h7 : in64 age) (h8 : in64 mos) (h9 : in64 rat) (h10 : in64 bur) (hs1 : IntKind.i64.wrap seed = seed) (hs2 : IntKind.i64.wrap ses = ses) (hs3 : IntKind.i64.wrap tok = tok)
    (hm : w.cell? ⟨0, 0, none⟩ = some (.int .i64 m)) :
    Calls Tryd.prog 5 #[.agg (scL ses tok seed loc del ahe siz age mos rat bur a xs.length c).toArray] w fun e w' => e = .returned (.bool true) ∧ Kept [] w w' := by
  have HM := hx (fun w1 (hk : Kept [] w w1) => by rw [hk.cell (World.block_lt_of_cell? _ _ hm) (by simp)]; exact hm : ∀ w1, Kept [] w w1 → w1.cell? ⟨0, 0, none⟩ = some (.int .i64 m))
  have HA := hx (fun w1 (hk : Kept [] w w1) => awake_any m w1 (HM.out w1 hk))
  have HP := hx (fun w1 (hk : Kept [] w w1) => pprint_any ses tok seed loc del ahe siz age mos rat bur a c xs w1 (ha.kept hk) h0 h1 h2 h4 h5 h6 h7 h8 h9 h10 hs1 hs2 hs3)
  have HQ := hx (fun w1 (hk : Kept [] w w1) => rprint_any ses tok seed loc del ahe siz age mos rat bur a c xs w1 (ha.kept hk) h0 h1 h2 h4 h5 h6 h7 h8 h9 h10 hs1 hs2 hs3)
  have HR := hx (fun w1 => ref_any ses tok seed loc del ahe siz age mos rat bur w1)
  obtain ⟨t, e0, hte⟩ : ∃ t e0, printO loc (headT ses tok seed del ahe siz age mos rat bur) xs = (t, e0) := ⟨_, _, rfl⟩
  rw [hte] at HP HQ
  generalize hn : xs.length = n at *
  clear hn ha hm hte h0 h1 h2 h4 h5 h6 h7 h8 h9 h10 hs1 hs2 hs3
  have HB := hx (Blk.new w (scL ses tok seed loc del ahe siz age mos rat bur a n c) 46)
  show Calls _ _ #[.agg #[.int .u32 ses, .int .u32 tok, .int .u32 seed, .int .i64 loc, .int .i64 del, .int .i64 ahe, .int .i64 siz, .int .i64 age, .int .i64 mos, .int .i64 rat, .int .i64 bur, .slice a n c]] w _
  go_enter Tryd.func5, Tryd.ntmps5
  go_upto_region 3 with (go_at_call 8; refine (HA.out _ ((Kept.refl [] w).alloc _)).mono ?_; rintro e w1 ⟨rfl, hk⟩; have K1 := hx (((Kept.refl [] w).alloc _).trans0 hk); have HB1 := hx (hk.blk HB.out (by simp)); clear hk)
  have c11 := HB1.out.cell (i := 11) rfl
  generalize w.heap.size = b0 at *
  by_cases hbig : (5000 : Int) < (n : Int)
  · go_wp2_with fail
    go_ret
    exact ⟨rfl, K1.out⟩
  · go_upto_region 6 with (first
      | (refine load_blk rfl 46 (.tmp 1) rfl b0 rfl 46 _ _ HB1.out Tryd.underlying46 rfl (by kernel_rfl) ?_)
      | (go_at_call 17; refine (HP.out _ K1.out).mono ?_; rintro e w2 ⟨rfl, hk⟩; have K2 := hx (K1.out.trans0 hk); have HB2 := hx (hk.blk HB1.out (by simp)); clear hk))
    have HSK := hx (fun (w3 : World) (hk : Kept [] w2 w3) => show (fun w3 : World => w3.cell? ⟨b0, 0, none⟩ = some (.int .u32 ses) ∧ w3.cell? ⟨b0, 1, none⟩ = some (.int .u32 tok) ∧ w3.cell? ⟨b0, 2, none⟩ = some (.int .u32 seed) ∧ w3.cell? ⟨b0, 3, none⟩ = some (.int .i64 loc) ∧ w3.cell? ⟨b0, 4, none⟩ = some (.int .i64 del) ∧ w3.cell? ⟨b0, 5, none⟩ = some (.int .i64 ahe) ∧ w3.cell? ⟨b0, 6, none⟩ = some (.int .i64 siz) ∧ w3.cell? ⟨b0, 7, none⟩ = some (.int .i64 age) ∧ w3.cell? ⟨b0, 8, none⟩ = some (.int .i64 mos) ∧ w3.cell? ⟨b0, 9, none⟩ = some (.int .i64 rat) ∧ w3.cell? ⟨b0, 10, none⟩ = some (.int .i64 bur) ∧ w3.cell? ⟨b0, 11, none⟩ = some (.slice a n c)) w3 from by
      have hb := hk.blk HB2.out (by simp)
      exact ⟨hb.cell (i := 0) rfl, hb.cell (i := 1) rfl, hb.cell (i := 2) rfl, hb.cell (i := 3) rfl, hb.cell (i := 4) rfl, hb.cell (i := 5) rfl, hb.cell (i := 6) rfl, hb.cell (i := 7) rfl, hb.cell (i := 8) rfl, hb.cell (i := 9) rfl, hb.cell (i := 10) rfl, hb.cell (i := 11) rfl⟩)
    have hSS : (fun w3 : World => w3.cell? ⟨b0, 0, none⟩ = some (.int .u32 ses) ∧ w3.cell? ⟨b0, 1, none⟩ = some (.int .u32 tok) ∧ w3.cell? ⟨b0, 2, none⟩ = some (.int .u32 seed) ∧ w3.cell? ⟨b0, 3, none⟩ = some (.int .i64 loc) ∧ w3.cell? ⟨b0, 4, none⟩ = some (.int .i64 del) ∧ w3.cell? ⟨b0, 5, none⟩ = some (.int .i64 ahe) ∧ w3.cell? ⟨b0, 6, none⟩ = some (.int .i64 siz) ∧ w3.cell? ⟨b0, 7, none⟩ = some (.int .i64 age) ∧ w3.cell? ⟨b0, 8, none⟩ = some (.int .i64 mos) ∧ w3.cell? ⟨b0, 9, none⟩ = some (.int .i64 rat) ∧ w3.cell? ⟨b0, 10, none⟩ = some (.int .i64 bur) ∧ w3.cell? ⟨b0, 11, none⟩ = some (.slice a n c)) w2 := HSK.out _ (Kept.refl _ _)
    clear HB HB1 c11 HA HP K1 HM
    go_region_held3 (fun w3 => w3.cell? ⟨b0, 0, none⟩ = some (.int .u32 ses) ∧ w3.cell? ⟨b0, 1, none⟩ = some (.int .u32 tok) ∧ w3.cell? ⟨b0, 2, none⟩ = some (.int .u32 seed) ∧ w3.cell? ⟨b0, 3, none⟩ = some (.int .i64 loc) ∧ w3.cell? ⟨b0, 4, none⟩ = some (.int .i64 del) ∧ w3.cell? ⟨b0, 5, none⟩ = some (.int .i64 ahe) ∧ w3.cell? ⟨b0, 6, none⟩ = some (.int .i64 siz) ∧ w3.cell? ⟨b0, 7, none⟩ = some (.int .i64 age) ∧ w3.cell? ⟨b0, 8, none⟩ = some (.int .i64 mos) ∧ w3.cell? ⟨b0, 9, none⟩ = some (.int .i64 rat) ∧ w3.cell? ⟨b0, 10, none⟩ = some (.int .i64 bur) ∧ w3.cell? ⟨b0, 11, none⟩ = some (.slice a n c)) (first | exact hSS | exact HSK.out _ ((Kept.refl [] w2).drew) | exact HSK.out _ HK4.out | exact HSK.out _ HK5.out.1) (first
      | (go_at_call 19; refine (HR.out _).mono ?_; rintro e w4 ⟨rfl, hk4⟩; have HK4 := hx (show Kept [] w2 w4 from (Kept.drew (Kept.refl [] w2)).trans0 hk4))
      | (go_at_call 18; refine (HQ.out _ (K2.out.trans0 HK4.out)).mono ?_; rintro e w5 ⟨rfl, hk5⟩; have HK5 := hx (show Kept [] w2 w5 ∧ Kept [] w w5 from ⟨HK4.out.trans0 hk5, K2.out.trans0 (HK4.out.trans0 hk5)⟩)))
    go_wp2_with fail
    go_ret
    exact ⟨rfl, HK5.out.2⟩
end Go.Proofs.YtdfbofkdlgfblaaDoor
