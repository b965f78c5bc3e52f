/- The names and games that come in. -/
import Derived.Test.YtimplkdmhndalaaLtO
import Derived.Test.YtimplkdmhndalaaRowsOf
namespace Go.Proofs.Ytimplkdmhndalaa
open Go Go.ChangeShapes Go.WideShapes Go.ChangeAt Go.RowKit Go.Deep
theorem txt_of {H : Type} {enc : TypeId × Value → H} {w : World} {base : Nat} {held : Bool} {spare : Nat → Bool} {es : List Value} (h : Rd enc Try.prog w base spare held 9 es) : ∃ y : List UInt8, es = [txt y] := by
  obtain ⟨f0, y0, r0⟩ := h
  obtain ⟨s, e0, _⟩ := DataW.trod_string Try.underlying9 r0
  refine ⟨s.data.toList, ?_⟩
  rw [e0]
theorem nms_of {H : Type} {enc : TypeId × Value → H} {w : World} {base : Nat} {held : Bool} {spare : Nat → Bool} {fuel : Nat} {v : Value} {x : DataW H × List MemPlace} (h : DataW.trod enc Try.prog w base spare held fuel 22 [v] = some x) :
    ∃ a c xs, v = .slice a xs.length c ∧ NmR w a xs := by
  obtain ⟨a, c, xs, h1, h2, _⟩ := rows_of (α := List UInt8) 1 (by omega) (by kernel_rfl) Try.underlying22 (fun y => [txt y]) (fun _ => True) (fun _ => rfl) (fun es he => by obtain ⟨y, hy⟩ := txt_of he; exact ⟨y, trivial, hy⟩) h
  refine ⟨a, c, xs, h1, ⟨fun i x hx => ?_⟩⟩
  obtain ⟨g, o, ha, hg, hc⟩ := h2 i x hx
  exact ⟨g, o, ha, hg, by have := hc 0 _ rfl; simpa using this⟩
theorem gms_of {H : Type} {enc : TypeId × Value → H} {w : World} {base : Nat} {held : Bool} {spare : Nat → Bool} {fuel : Nat} {v : Value} {x : DataW H × List MemPlace} (h : DataW.trod enc Try.prog w base spare held fuel 23 [v] = some x) :
    ∃ a c xs, v = .slice a xs.length c ∧ GmR w a xs := by
  have c3 : Try.prog.cellsOf 34 = 3 := by kernel_rfl
  have ci : Try.prog.cellsOf 3 = 1 := by kernel_rfl
  have cs : Try.prog.cellsOf 9 = 1 := by kernel_rfl
  obtain ⟨a, c, xs, h1, h2, _⟩ := rows_of (α := List UInt8 × List UInt8 × Int) 3 (by omega) c3 Try.underlying23 (fun y => [txt y.1, txt y.2.1, .int .i64 y.2.2]) (fun _ => True) (fun _ => rfl) (fun es he => by
    have hlen := he.len Try.underlying34
    rw [c3] at hlen
    obtain ⟨n0, e0⟩ := txt_of (he.field Try.underlying34 0 _ rfl)
    obtain ⟨n1, e1⟩ := txt_of (he.field Try.underlying34 1 _ rfl)
    obtain ⟨n2, e2, _⟩ := (he.field Try.underlying34 2 _ rfl).int Try.underlying3
    change (es.drop 0).take (Try.prog.cellsOf 9) = _ at e0
    change (es.drop 1).take (Try.prog.cellsOf 9) = _ at e1
    change (es.drop 2).take (Try.prog.cellsOf 3) = _ at e2
    rw [cs] at e0 e1
    rw [ci] at e2
    have g0 := at_of e0
    have g1 := at_of e1
    have g2 := at_of e2
    refine ⟨(n0, n1, n2), trivial, ?_⟩
    match es, hlen with
    | [p, q, r], _ =>
      simp only [List.getElem?_cons_zero, List.getElem?_cons_succ, Option.some.injEq] at g0 g1 g2
      rw [g0, g1, g2]) h
  refine ⟨a, c, xs, h1, ⟨fun i x hx => ?_⟩⟩
  obtain ⟨g, o, ha, hg, hc⟩ := h2 i x hx
  exact ⟨g, o, ha, hg, by have := hc 0 _ rfl; simpa using this, hc 1 _ rfl, hc 2 _ rfl⟩
end Go.Proofs.Ytimplkdmhndalaa
