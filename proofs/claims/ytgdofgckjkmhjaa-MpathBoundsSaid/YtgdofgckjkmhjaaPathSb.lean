import Derived.Test.YtgdofgckjkmhjaaPathSa
namespace Go.Proofs.Ytgdofgckjkmhjaa
open Go Go.RowKit
theorem infoSsp (s : St) : (Try.prog.info? 56).map (·.size) = some 5 := by kernel_rfl
theorem infoSqp (s : Sn) : (Try.prog.info? 59).map (·.size) = some 6 := by kernel_rfl
theorem exec_m5 (w : World) (ev : Operand → Value) (dst : Option Tmp) (x : Operand) (t2 : TypeId) (pos : String) (af : Array Edge) (g : Option (Nat × Bool)) (h : goodMid w 5 (ev x) = true) :
    (execOp ev { dst := dst, op := .load 56 x, type := t2, pos := pos, after := af, guard := g }).run Try.prog w = .ok (.value (.agg (midAt w 5 (ev x)))) w :=
  exec_mid 56 5 _ Try.underlying56 rfl (infoSsp st0) ev _ x rfl h
theorem exec_m6 (w : World) (ev : Operand → Value) (dst : Option Tmp) (x : Operand) (t2 : TypeId) (pos : String) (af : Array Edge) (g : Option (Nat × Bool)) (h : goodMid w 6 (ev x) = true) :
    (execOp ev { dst := dst, op := .load 59 x, type := t2, pos := pos, after := af, guard := g }).run Try.prog w = .ok (.value (.agg (midAt w 6 (ev x)))) w :=
  exec_mid 59 6 _ Try.underlying59 rfl (infoSqp sn0) ev _ x rfl h
attribute [local go_sem ↓] exec_m5 exec_m6
attribute [local go_sem] goodMid_at midAt_at
theorem Part.all (xs : List Value) : Part xs 0 xs := ⟨by simp, fun k _ => by simp⟩
end Go.Proofs.Ytgdofgckjkmhjaa
