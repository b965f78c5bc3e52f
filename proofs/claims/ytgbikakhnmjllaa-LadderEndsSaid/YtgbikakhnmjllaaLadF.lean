import Derived.Test.YtgbikakhnmjllaaLadE
import Derived.Test.YtgbikakhnmjllaaOpen
namespace Go.Proofs.Ytgbikakhnmjllaa
open Go Go.RowKit
theorem infoSt : (Try.prog.info? 39).map (·.size) = some 66 := by kernel_rfl
theorem exec_St (w : World) (ev : Operand → Value) (dst : Option Tmp) (x : Operand) (t2 : TypeId) (pos : String) (af : Array Edge) (g : Option (Nat × Bool)) (h : goodPtr w 66 (ev x) = true) :
    (execOp ev { dst := dst, op := .load 39 x, type := t2, pos := pos, after := af, guard := g }).run Try.prog w = .ok (.value (.agg (rowAt w (ev x)))) w :=
  exec_row 39 66 _ Try.underlying39 rfl infoSt ev _ x rfl h
attribute [local go_sem ↓] exec_St
attribute [local go_sem] goodPtr_at rowAt_at
set_option maxRecDepth 100000 in
set_option maxHeartbeats 1600000 in
theorem law_ends (cs : List Value) (s0 s1 l0 l1 : Int) (h : St cs s0 s1 l0 l1) (w : World) :
    Calls Try.prog 4 #[.agg cs.toArray] w fun e w' => e = .returned (.bool true) ∧ Kept [] w w' := by
  have hb := Blk.new w cs 39
  have hS0 : ∀ w', Blk w' w.heap.size cs 39 → rowOf w' w.heap.size = cs.toArray ∧ hasRow w' w.heap.size 66 = true := fun w' hb => ⟨hb.row, by rw [← h.len]; exact hb.has⟩
  have HS := Lib.hid hS0
  have hG : ∀ w3 w4 : World, ((rowOf w3 w.heap.size = cs.toArray ∧ hasRow w3 w.heap.size 66 = true) ∧ (Hid (Blk w3 w.heap.size cs 39) ∧ Kept [] w w3)) → Kept [] w3 w4 → ((rowOf w4 w.heap.size = cs.toArray ∧ hasRow w4 w.heap.size 66 = true) ∧ (Hid (Blk w4 w.heap.size cs 39) ∧ Kept [] w w4)) := fun w3 w4 h hk =>
    ⟨hS0 _ (hk.blk h.2.1.out (by have := hb.lt; simp)), hk.blk h.2.1.out (by simp), h.2.2.trans0 hk⟩
  have HG := Lib.hid hG
  have hH := Lib.hid h
  have hB := Lib.hid hb
  clear hb h hS0 hG
  go_enter Try.func4, Try.ntmps4
  go_wp2
  go_region_held3 (fun w' => (rowOf w' w.heap.size = cs.toArray ∧ hasRow w' w.heap.size 66 = true) ∧ (Hid (Blk w' w.heap.size cs 39) ∧ Kept [] w w')) (first | exact hSS | exact ⟨HS.out _ hB.out.drew, hB.out.drew, ((Kept.refl _ _).alloc _).drew⟩ | assumption)
    (first | (go_at_call 7; refine (lawake_any _).mono ?_; rintro e w' ⟨rfl, rfl⟩) | (go_at_call 12; refine (end_any cs s0 s1 l0 l1 hH.out _).mono ?_; rintro e w' ⟨rfl, hk⟩; have hSS := HG.out _ _ ‹_› hk) | (go_at_call 13; refine (rend_any cs s0 s1 l0 l1 hH.out _).mono ?_; rintro e w' ⟨rfl, hk⟩; have hSS := HG.out _ _ ‹_› hk))
  all_goals
    go_wp2
    go_ret
    exact ⟨rfl, hSS.2.2⟩
open Go.ChangeShapes Go.WideShapes in
theorem st_of {H : Type} {enc : TypeId × Value → H} {w : World} {base : Nat} {spare : Nat → Bool} {held : Bool} {cs : List Value} (h : Rd enc Try.prog w base spare held 39 cs) : ∃ s0 s1 l0 l1, St cs s0 s1 l0 l1 := by
  have hl := h.len Try.underlying39
  rw [show Try.prog.cellsOf 39 = 66 by kernel_rfl] at hl
  have hs := h.field Try.underlying39 4 _ rfl
  have hb := h.field Try.underlying39 2 _ rfl
  obtain ⟨n0, e0, _⟩ := (hs.elem Try.underlying37 0 (by omega)).int Try.underlying3
  obtain ⟨n1, e1, _⟩ := (hs.elem Try.underlying37 1 (by omega)).int Try.underlying3
  have b0 := hb.elem Try.underlying33 0 (by omega)
  have b1 := hb.elem Try.underlying33 1 (by omega)
  obtain ⟨m0, f0, _⟩ := (b0.field Try.underlying32 4 _ rfl).int Try.underlying3
  obtain ⟨m1, f1, _⟩ := (b1.field Try.underlying32 4 _ rfl).int Try.underlying3
  have ci : Try.prog.cellsOf 3 = 1 := by kernel_rfl
  have cb : Try.prog.cellsOf 32 = 7 := by kernel_rfl
  simp only [ci, cb] at e0 e1 f0 f1
  refine ⟨n0, n1, m0, m1, hl, ?_, ?_, ?_, ?_⟩
  · exact at_in (at_of e0)
  · exact at_in (at_of e1)
  · exact at_in (at_in (at_of f0))
  · exact at_in (at_in (at_of f1))
end Go.Proofs.Ytgbikakhnmjllaa
