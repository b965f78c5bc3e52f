/- New cells, as a block's. -/
import Derived.Test.YteobkcmfpmolmaaL2
namespace Go.Proofs.Yteobkcmfpmolmaa
open Go Go.RowKit
theorem news2 {w : World} {g : Nat} {xs : List Value} {T : TypeId} (h : Blk w g xs T) : ∀ ad, some (⟨g, 0, none⟩ : Addr) = some ad → ∀ j u, xs[j]? = some u → w.cell? (ad.add j) = some u := by
  intro ad ha j u hu
  simp only [Option.some.injEq] at ha
  subst ha
  rw [Addr.add_mid]
  simp only [Nat.zero_add]
  exact h.cell hu
end Go.Proofs.Yteobkcmfpmolmaa
