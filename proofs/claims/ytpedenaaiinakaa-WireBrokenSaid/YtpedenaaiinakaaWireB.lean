import Derived.Test.YtpedenaaiinakaaWireA
namespace Go.Proofs.Ytpedenaaiinakaa
open Go Go.RowKit
def chk (d : Dg) : Int := if d.kind < 1 ∨ 8 < d.kind then 72 else if d.path < 0 ∨ 2 ≤ d.path ∨ formB d = false then 73 else 0
theorem load_dg {w : World} {ops : Array Oper} {rest : List Oper} {o : Oper} {a : Act} {Q : Exit → Act → World → Prop} (hgd : o.guard = none) (x : Operand) (ho : o.op = .load 25 x)
    (g : Nat) (hx : a.eval x = .pointer (some ⟨g, 0, none⟩)) (d : Dg) (p : Option Addr) (c : Nat) (hb : Blk w g (dgl d p c) 25) (h : wpList Try.prog ops Q rest (a.put o.dst (.agg (dgl d p c).toArray)) w) : wpList Try.prog ops Q (o :: rest) a w :=
  load_blk hgd 25 x ho g hx 25 _ _ hb Try.underlying25 rfl (by kernel_rfl) h
theorem exec_Dg (w : World) (ev : Operand → Value) (dst : Option Tmp) (x : Operand) (t2 : TypeId) (pos : String) (af : Array Edge) (g : Option (Nat × Bool)) (h : goodPtr w 11 (ev x) = true) :
    (execOp ev { dst := dst, op := .load 25 x, type := t2, pos := pos, after := af, guard := g }).run Try.prog w = .ok (.value (.agg (rowAt w (ev x)))) w :=
  exec_row 25 11 _ Try.underlying25 rfl (by kernel_rfl) ev _ x rfl h
attribute [local go_sem ↓] exec_Dg
attribute [local go_sem] goodPtr_at rowAt_at
set_option maxRecDepth 100000 in
set_option maxHeartbeats 3200000 in
theorem check_any (d : Dg) (p : Option Addr) (n c : Nat) (w : World) (hd : Bts w p n c d.data) :
    Calls Try.prog 13 #[.agg (dgl d p c).toArray] w fun e w' => e = .returned (.int .i64 (chk d)) ∧ Kept [] w w' := by
  obtain rfl := hd.hlen
  have hb := Blk.new w (dgl d p c) 25
  have c0 := hb.cell (show (dgl d p c)[0]? = some (.int .i64 d.kind) from rfl)
  have c3 := hb.cell (show (dgl d p c)[3]? = some (.int .i64 d.path) from rfl)
  have hrow := hb.row
  have hhas : hasRow (w.alloc (.cells (dgl d p c).toArray 25)) w.heap.size 11 = true := hb.has
  have fin : ∀ w', Kept [] (w.alloc (.cells (dgl d p c).toArray 25)) w' → Kept [] w w' := fun w' h => ((Kept.refl _ _).alloc _).trans0 h
  have FIN := Lib.hid fin
  clear fin
  by_cases h1 : d.kind < 1 ∨ 8 < d.kind
  · have hf := Lib.hid (show chk d = 72 by unfold chk; rw [if_pos h1])
    rcases h1 with h1 | h1
    · go_enter Try.func13, Try.ntmps13
      go_wp2
      go_ret
      exact ⟨by rw [hf.out]; rfl, FIN.out _ (Kept.refl _ _)⟩
    · have g : decide (d.kind < 1) = false := by simp; omega
      go_enter Try.func13, Try.ntmps13
      go_wp2
      go_ret
      exact ⟨by rw [hf.out]; rfl, FIN.out _ (Kept.refl _ _)⟩
  · have g : decide (d.kind < 1) = false := by simp; omega
    have g0 : ¬ 8 < d.kind := by omega
    by_cases h2 : d.path < 0
    · have hf := Lib.hid (show chk d = 73 by unfold chk; rw [if_neg h1, if_pos (by omega)])
      clear h1
      go_enter Try.func13, Try.ntmps13
      go_wp2
      go_ret
      exact ⟨by rw [hf.out]; rfl, FIN.out _ (Kept.refl _ _)⟩
    · have g2 : decide (d.path < 0) = false := by simp; omega
      by_cases h3 : 2 ≤ d.path
      · have hf := Lib.hid (show chk d = 73 by unfold chk; rw [if_neg h1, if_pos (by omega)])
        have g3 : decide (2 ≤ d.path) = true := by simp; omega
        clear h1 h2
        go_enter Try.func13, Try.ntmps13
        go_wp2
        go_ret
        exact ⟨by rw [hf.out]; rfl, FIN.out _ (Kept.refl _ _)⟩
      · have g3 : decide (2 ≤ d.path) = false := by simp; omega
        have hfo := form_any d p d.data.length c (w.alloc (.cells (dgl d p c).toArray 25)) (hd.kept ((Kept.refl _ _).alloc _))
        have hFO := Lib.hid hfo
        clear hfo
        cases hfb : formB d
        · have hf := Lib.hid (show chk d = 73 by unfold chk; rw [if_neg h1, if_pos (by simp [hfb])])
          have hfb' := Lib.hid hfb
          clear h1 h2 h3 hfb
          go_enter Try.func13, Try.ntmps13
          go_wp2_with fail
          refine hFO.out.mono ?_
          rintro e w1 ⟨rfl, hk⟩
          rw [hfb'.out]
          go_wp2
          go_ret
          exact ⟨by rw [hf.out]; rfl, FIN.out _ hk⟩
        · have hf := Lib.hid (show chk d = 0 by unfold chk; rw [if_neg h1, if_neg (by simp [hfb]; omega)])
          have hfb' := Lib.hid hfb
          clear h1 h2 h3 hfb
          go_enter Try.func13, Try.ntmps13
          go_wp2_with fail
          refine hFO.out.mono ?_
          rintro e w1 ⟨rfl, hk⟩
          rw [hfb'.out]
          go_wp2
          go_ret
          exact ⟨by rw [hf.out]; rfl, FIN.out _ hk⟩
end Go.Proofs.Ytpedenaaiinakaa
