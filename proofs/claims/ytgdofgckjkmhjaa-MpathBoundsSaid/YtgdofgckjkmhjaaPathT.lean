import Derived.Test.YtgdofgckjkmhjaaPathS
import Derived.Deep.DeepCutAuto
import Derived.Deep.RegionHeld3
namespace Go.Proofs.Ytgdofgckjkmhjaa
open Go Go.RowKit
theorem stc_one (s : St) : ∀ v ∈ stc s, v.oneCell' = true := by
  intro v hv
  simp only [stc, List.mem_cons, List.not_mem_nil, or_false] at hv
  rcases hv with rfl | rfl | rfl | rfl | rfl <;> rfl
def absI (n : Int) : Int := if n < 0 then -n else n

attribute [local go_sem] goodPtr_at rowAt_at
theorem blk_2 (w : World) (xs : Array Value) (T : TypeId) (o : Obj) : Blk ((w.alloc o).alloc (.cells xs T)) (w.heap.size + 1) xs.toList T := by
  have h := Blk.new' (w.alloc o) xs T
  rwa [show (w.alloc o).heap.size = w.heap.size + 1 by simp] at h
end Go.Proofs.Ytgdofgckjkmhjaa
