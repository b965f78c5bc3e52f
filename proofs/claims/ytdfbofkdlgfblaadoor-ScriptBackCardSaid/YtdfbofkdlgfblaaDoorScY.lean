/- The config, as the document's and as numbers; the heads. -/
import Derived.Test.YtdfbofkdlgfblaaDoorScX
namespace Go.Proofs.YtdfbofkdlgfblaaDoor
open Go Go.RowKit
theorem Blk.at (w : World) (g : Nat) (hg : g = w.heap.size) (xs : List Value) (T : TypeId) : Blk (w.alloc (.cells xs.toArray T)) g xs T := by
  subst hg
  exact Blk.new w xs T
/-- A config's eleven cells. -/
def cfL (ses tok seed loc del ahe siz age mos rat bur : Int) : List Value := [.int .u32 ses, .int .u32 tok, .int .u32 seed, .int .i64 loc, .int .i64 del, .int .i64 ahe, .int .i64 siz, .int .i64 age, .int .i64 mos, .int .i64 rat, .int .i64 bur]
theorem cf_one (ses tok seed loc del ahe siz age mos rat bur : Int) : ∀ v ∈ cfL ses tok seed loc del ahe siz age mos rat bur, v.oneCell' = true := by
  intro v hv
  simp only [cfL, List.mem_cons, List.not_mem_nil, or_false] at hv
  rcases hv with rfl | rfl | rfl | rfl | rfl | rfl | rfl | rfl | rfl | rfl | rfl <;> rfl
set_option maxRecDepth 100000 in
set_option maxHeartbeats 12800000 in
theorem ref_any (ses tok seed loc del ahe siz age mos rat bur : Int) (w : World) :
    Calls Tryd.prog 19 #[.agg (cfL ses tok seed loc del ahe siz age mos rat bur).toArray] w fun e w' => e = .returned (.agg (cfL ses tok seed loc del ahe siz age mos rat bur).toArray) ∧ Kept [] w w' := by
  show Calls _ _ #[.agg #[.int .u32 ses, .int .u32 tok, .int .u32 seed, .int .i64 loc, .int .i64 del, .int .i64 ahe, .int .i64 siz, .int .i64 age, .int .i64 mos, .int .i64 rat, .int .i64 bur]] w _
  go_enter Tryd.func19, Tryd.ntmps19
  go_wp2_with fail
  exact bodyPost_ret (ret_blk rfl _ (w.heap.size + 1) _ _ _ rfl (Blk.at _ _ (by simp) (cfL ses tok seed loc del ahe siz age mos rat bur) 50) Tryd.underlying50 rfl (by kernel_rfl)) rfl ⟨rfl, ((Kept.refl _ _).alloc _).alloc _⟩
set_option maxRecDepth 100000 in
set_option maxHeartbeats 12800000 in
theorem pheads_any (w : World) :
    Calls Tryd.prog 36 #[] w fun e w' => ∃ g, e = .returned (.slice (some ⟨g, 0, none⟩) 4 4) ∧ Blk w' g [txt [103, 97, 109, 101], txt [115, 101, 110, 100], txt [114, 97, 116, 101], txt [109, 101, 101, 116]] 9 ∧ Kept [] w w' := by
  go_enter Tryd.func36, Tryd.ntmps36
  go_wp2_with fail
  go_ret
  exact ⟨_, rfl, Blk.new w _ _, (Kept.refl _ _).alloc _⟩
set_option maxRecDepth 100000 in
set_option maxHeartbeats 12800000 in
theorem config_any (ses tok seed loc del ahe siz age mos rat bur : Int) (w : World) (hs1 : IntKind.i64.wrap seed = seed) (hs2 : IntKind.i64.wrap ses = ses) (hs3 : IntKind.i64.wrap tok = tok) :
    Calls Tryd.prog 34 #[.agg (cfL ses tok seed loc del ahe siz age mos rat bur).toArray] w fun e w' => ∃ g a b c d, e = .returned (.slice (some ⟨g, 0, none⟩) 4 4) ∧ Blk w' g [.slice (some ⟨a, 0, none⟩) 3 3, .slice (some ⟨b, 0, none⟩) 3 3, .slice (some ⟨c, 0, none⟩) 2 2, .slice (some ⟨d, 0, none⟩) 2 2] 65 ∧
      Blk w' a (ints [seed, del, ahe]) 3 ∧ Blk w' b (ints [siz, age, mos]) 3 ∧ Blk w' c (ints [rat, bur]) 3 ∧ Blk w' d (ints [ses, tok]) 3 ∧ Kept [] w w' := by
  show Calls _ _ #[.agg #[.int .u32 ses, .int .u32 tok, .int .u32 seed, .int .i64 loc, .int .i64 del, .int .i64 ahe, .int .i64 siz, .int .i64 age, .int .i64 mos, .int .i64 rat, .int .i64 bur]] w _
  go_enter Tryd.func34, Tryd.ntmps34
  go_wp2_with fail
  go_ret
  refine ⟨w.heap.size + 5, w.heap.size + 1, w.heap.size + 2, w.heap.size + 3, w.heap.size + 4, rfl, Blk.at _ _ (by simp) _ _, ?_, ?_, ?_, ?_, ((((((Kept.refl _ _).alloc _).alloc _).alloc _).alloc _).alloc _).alloc _⟩
  · exact ((((Blk.at _ _ (by simp) (ints [seed, del, ahe]) _).alloc _).alloc _).alloc _).alloc _
  · exact (((Blk.at _ _ (by simp) (ints [siz, age, mos]) _).alloc _).alloc _).alloc _
  · exact ((Blk.at _ _ (by simp) (ints [rat, bur]) _).alloc _).alloc _
  · exact (Blk.at _ _ (by simp) (ints [ses, tok]) _).alloc _
end Go.Proofs.YtdfbofkdlgfblaaDoor
