/- Steps of a region that draws its order: whole structs loaded and stored. -/
import Derived.Test.YthpdoekeooedfaaPartL
import Derived.RegionTactic
import Derived.BigRegion
namespace Go.Proofs.Ythpdoekeooedfaa
open Go Go.RowKit
theorem step_load {P : Program} {ops : Array Oper} {o : Oper} {a : Act} {w : World} {K : Act → World → Prop} {Q : Exit → Act → World → Prop} {E : Prop} (hg : o.guard = none) (ty : TypeId) (x : Operand) (ho : o.op = .load ty x)
    (b k : Nat) (hx : a.eval x = .pointer (some ⟨b, k, none⟩)) (T : TypeId) (xs cs : List Value) (d : TypeDesc) (hb : Blk w b xs T) (hp : Part xs k cs)
    (hu : P.underlying ty = some d) (hd : d.isRow = true) (hi : (P.info? ty).map (·.size) = some cs.length)
    (hK : K (a.put o.dst (.agg cs.toArray)) w) : if Region.wanted o (yielded ops a.tmps) = true then Oper.wp P o a w K Q else E := by
  rw [if_pos (by simp [Region.wanted, hg])]
  exact wp_load_mid ty x ho b k hx cs d (hp.range hb) hu hd hi hK
theorem step_store {P : Program} {ops : Array Oper} {o : Oper} {a : Act} {w : World} {K : Act → World → Prop} {Q : Exit → Act → World → Prop} {E : Prop} (hg : o.guard = none) (ty : TypeId) (x y : Operand) (ho : o.op = .store ty x y)
    (b k : Nat) (hx : a.eval x = .pointer (some ⟨b, k, none⟩)) (T : TypeId) (xs ys : List Value) (hy : a.eval y = .agg ys.toArray) (hb : Blk w b xs T) (hl : k + ys.length ≤ xs.length)
    (hi : (P.info? ty).map (·.size) = some ys.length) (h1 : ∀ v ∈ ys, v.oneCell' = true)
    (hK : ∀ w', Blk w' b (setAll xs k ys) T → Kept [b] w w' → K (a.put o.dst undef) w') : if Region.wanted o (yielded ops a.tmps) = true then Oper.wp P o a w K Q else E := by
  rw [if_pos (by simp [Region.wanted, hg])]
  exact wp_store_mid ty x y ho b k ys.toArray hx hy (hb.there (by simpa using hl)) (by simpa using hi) (all_oneCell_toArray h1)
    (hK _ (hb.setCells k ys) ((Kept.refl _ _).setCells (by simp) k _))
theorem step_assign {P : Program} {ops : Array Oper} {o : Oper} {a : Act} {w : World} {K : Act → World → Prop} {Q : Exit → Act → World → Prop} {E : Prop} (hg : o.guard = none) (x : Operand) (ho : o.op = .assign x) (hK : K (a.put o.dst (a.eval x)) w) :
    if Region.wanted o (yielded ops a.tmps) = true then Oper.wp P o a w K Q else E := by
  rw [if_pos (by simp [Region.wanted, hg])]
  unfold Oper.wp
  simp [execOp, ho]
  exact hK
end Go.Proofs.Ythpdoekeooedfaa
