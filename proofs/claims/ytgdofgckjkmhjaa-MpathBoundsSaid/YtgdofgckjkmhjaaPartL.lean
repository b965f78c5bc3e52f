import Derived.Test.YtgdofgckjkmhjaaPart
namespace Go.Proofs.Ytgdofgckjkmhjaa
open Go Go.RowKit
theorem Part.range {w : World} {b o : Nat} {xs cs : List Value} {T : TypeId} (h : Blk w b xs T) (hp : Part xs o cs) : w.rangeAt b o cs := fun j v hv => h.part hp j v hv
/-- A part of a block is loaded as a whole. -/
theorem load_part {P : Program} {w : World} {ops : Array Oper} {rest : List Oper} {op : Oper} {a : Act} {Q : Exit → Act → World → Prop} (hgd : op.guard = none) (ty : TypeId) (x : Operand) (ho : op.op = .load ty x)
    (g o : Nat) (hx : a.eval x = .pointer (some ⟨g, o, none⟩)) (T : TypeId) (xs cs : List Value) (d : TypeDesc) (hb : Blk w g xs T) (hp : Part xs o cs)
    (hu : P.underlying ty = some d) (hd : d.isRow = true) (hi : (P.info? ty).map (·.size) = some cs.length)
    (h : wpList P ops Q rest (a.put op.dst (.agg cs.toArray)) w) : wpList P ops Q (op :: rest) a w :=
  wpList_load_mid hgd ty x ho g o hx cs d (hp.range hb) hu hd hi h
/-- A part of a block is laid anew as a whole. -/
theorem store_part {P : Program} {w : World} {ops : Array Oper} {rest : List Oper} {op : Oper} {a : Act} {Q : Exit → Act → World → Prop} (hgd : op.guard = none) (ty : TypeId) (x y : Operand) (ho : op.op = .store ty x y)
    (g o : Nat) (hx : a.eval x = .pointer (some ⟨g, o, none⟩)) (T : TypeId) (xs ys : List Value) (hy : a.eval y = .agg ys.toArray) (hb : Blk w g xs T) (hl : o + ys.length ≤ xs.length)
    (hi : (P.info? ty).map (·.size) = some ys.length) (h1 : ∀ v ∈ ys, v.oneCell' = true)
    (h : ∀ w', Blk w' g (setAll xs o ys) T → Kept [g] w w' → wpList P ops Q rest (a.put op.dst undef) w') : wpList P ops Q (op :: rest) a w :=
  wpList_store_mid hgd ty x y ho g o ys.toArray hx hy (hb.there (by simpa using hl)) (by simpa using hi) (all_oneCell_toArray h1)
    (h _ (hb.setCells o ys) ((Kept.refl _ _).setCells (by simp) o _))
end Go.Proofs.Ytgdofgckjkmhjaa
