import Derived.Test.YthkjllphefnphaaPathRB
import Derived.Test.YthkjllphefnphaaPathZ
import Derived.Test.YthkjllphefnphaaPartG
namespace Go.Proofs.Ythkjllphefnphaa
open Go Go.RowKit
set_option maxHeartbeats 800000 in
theorem lsame13 (s : St) (w : World) :
    Calls Try.prog 30 #[.agg (stc s).toArray, .agg (stc s).toArray] w fun e w' => e = .returned (.bool true) ∧ Kept [] w w' := by
  have b0 := (Blk.new w (stc s) 25).alloc (.cells (stc s).toArray 32)
  have e0 : Blk ((w.alloc (.cells (stc s).toArray 25)).alloc (.cells (stc s).toArray 32)) (w.heap.size + 1) (stc s) 32 := by
    have h := Blk.new (w.alloc (.cells (stc s).toArray 25)) (stc s) 32
    rw [show (w.alloc (.cells (stc s).toArray 25)).heap.size = w.heap.size + 1 by simp] at h
    exact h
  have k0 : Kept [] w ((w.alloc (.cells (stc s).toArray 25)).alloc (.cells (stc s).toArray 32)) := ((Kept.refl _ _).alloc _).alloc _
  have B0 := hx b0
  have E0 := hx e0
  have K0 := hx k0
  clear b0 e0 k0
  go_enter Try.func30, Try.ntmps30
  go_upto_region 1 with fail
  generalize (w.alloc (.cells (stc s).toArray 25)).alloc (.cells (stc s).toArray 32) = W0 at *
  have c0 := B0.out.cell (i := 0) rfl
  have c1 := B0.out.cell (i := 1) rfl
  have c2 := B0.out.cell (i := 2) rfl
  have c3 := B0.out.cell (i := 3) rfl
  have c4 := B0.out.cell (i := 4) rfl
  have d0 := E0.out.cell (i := 0) rfl
  have d1 := E0.out.cell (i := 1) rfl
  have d2 := E0.out.cell (i := 2) rfl
  have d3 := E0.out.cell (i := 3) rfl
  have d4 := E0.out.cell (i := 4) rfl
  go_wp2
  go_ret
  exact ⟨rfl, K0.out⟩
theorem infoRs69 : (Try.prog.info? 35).map (·.size) = some 69 := infoRs
theorem exec_Rs (w : World) (ev : Operand → Value) (dst : Option Tmp) (x : Operand) (t2 : TypeId) (pos : String) (af : Array Edge) (g : Option (Nat × Bool)) (h : goodPtr w 69 (ev x) = true) :
    (execOp ev { dst := dst, op := .load 35 x, type := t2, pos := pos, after := af, guard := g }).run Try.prog w = .ok (.value (.agg (rowAt w (ev x)))) w :=
  exec_row 35 69 _ Try.underlying35 rfl infoRs69 ev _ x rfl h
attribute [local go_sem ↓] exec_Rs
attribute [local go_sem] goodPtr_at rowAt_at
def S8 (n : Nat) (s : Sn) (w' : World) : Prop :=
  rowOf w' (n + 1) = (rsc s).toArray ∧ hasRow w' (n + 1) 69 = true
def C8 (n : Nat) (s : Sn) (w' : World) : Prop :=
  w'.cell? ⟨n, 0, none⟩ = some (.bool s.any) ∧ w'.cell? ⟨n, 1, none⟩ = some (.int .u32 s.top) ∧ w'.cell? ⟨n, 2, none⟩ = some (.int .u64 s.bits) ∧ w'.cell? ⟨n, 3, none⟩ = some (.int .i64 s.came) ∧ w'.cell? ⟨n, 4, none⟩ = some (.int .i64 s.twice) ∧ w'.cell? ⟨n, 5, none⟩ = some (.int .i64 s.lost) ∧
  w'.cell? ⟨n + 1, 0, none⟩ = some (.bool s.any) ∧ w'.cell? ⟨n + 1, 1, none⟩ = some (.int .u32 s.top) ∧ w'.cell? ⟨n + 1, 66, none⟩ = some (.int .i64 s.came) ∧ w'.cell? ⟨n + 1, 67, none⟩ = some (.int .i64 s.twice) ∧ w'.cell? ⟨n + 1, 68, none⟩ = some (.int .i64 s.lost)
theorem C8_of (n : Nat) (s : Sn) (w' : World) (hb : Blk w' n (snc s) 29) (he : Blk w' (n + 1) (rsc s) 35) : S8 n s w' ∧ C8 n s w' := by
  refine ⟨⟨he.row, by have := he.has; rwa [rsc_len] at this⟩, hb.cell rfl, hb.cell rfl, hb.cell rfl, hb.cell rfl, hb.cell rfl, hb.cell rfl, he.cell (by simp [rsc]), he.cell (by simp [rsc]), he.cell (rsc_tail s 0 (by omega)), he.cell (rsc_tail s 1 (by omega)), he.cell (rsc_tail s 2 (by omega))⟩
set_option maxRecDepth 100000 in
set_option maxHeartbeats 3200000 in
theorem lsame08 (s : Sn) (w : World) (hbits : s.bits < 18446744073709551616) :
    Calls Try.prog 31 #[.agg (snc s).toArray, .agg (rsc s).toArray] w fun e w' => e = .returned (.bool true) ∧ Kept [] w w' := by
  have b0 := (Blk.new w (snc s) 29).alloc (.cells (rsc s).toArray 35)
  have e0 : Blk ((w.alloc (.cells (snc s).toArray 29)).alloc (.cells (rsc s).toArray 35)) (w.heap.size + 1) (rsc s) 35 := by
    have h := Blk.new (w.alloc (.cells (snc s).toArray 29)) (rsc s) 35
    rw [show (w.alloc (.cells (snc s).toArray 29)).heap.size = w.heap.size + 1 by simp] at h
    exact h
  have k0 : Kept [] w ((w.alloc (.cells (snc s).toArray 29)).alloc (.cells (rsc s).toArray 35)) := ((Kept.refl _ _).alloc _).alloc _
  have B0 := hx b0
  have E0 := hx e0
  have K0 := hx k0
  have HT := hx (fun w => rbits_any s w hbits)
  have HG := hx (fun (w3 w4 : World) (h : ((rowOf w3 (w.heap.size + 1) = (rsc s).toArray ∧ hasRow w3 (w.heap.size + 1) 69 = true) ∧ C8 w.heap.size s w3) ∧ (Hx (Blk w3 w.heap.size (snc s) 29) ∧ Hx (Blk w3 (w.heap.size + 1) (rsc s) 35) ∧ Hx (Kept [] w w3))) (hk : Kept [] w3 w4) =>
    show ((rowOf w4 (w.heap.size + 1) = (rsc s).toArray ∧ hasRow w4 (w.heap.size + 1) 69 = true) ∧ C8 w.heap.size s w4) ∧ (Hx (Blk w4 w.heap.size (snc s) 29) ∧ Hx (Blk w4 (w.heap.size + 1) (rsc s) 35) ∧ Hx (Kept [] w w4)) from
    ⟨C8_of _ _ _ (hk.blk h.2.1.out (by simp)) (hk.blk h.2.2.1.out (by simp)), ⟨hk.blk h.2.1.out (by simp)⟩, ⟨hk.blk h.2.2.1.out (by simp)⟩, ⟨h.2.2.2.out.trans0 hk⟩⟩)
  have HI := hx (C8_of w.heap.size s)
  unfold C8 S8 at HI
  unfold C8 at HG
  clear b0 e0 k0 hbits
  go_enter Try.func31, Try.ntmps31
  go_upto_region 1 with fail
  generalize (w.alloc (.cells (snc s).toArray 29)).alloc (.cells (rsc s).toArray 35) = W0 at *
  go_region_held3 (fun w' => ((rowOf w' (w.heap.size + 1) = (rsc s).toArray ∧ hasRow w' (w.heap.size + 1) 69 = true) ∧ (w'.cell? ⟨w.heap.size, 0, none⟩ = some (.bool s.any) ∧ w'.cell? ⟨w.heap.size, 1, none⟩ = some (.int .u32 s.top) ∧ w'.cell? ⟨w.heap.size, 2, none⟩ = some (.int .u64 s.bits) ∧ w'.cell? ⟨w.heap.size, 3, none⟩ = some (.int .i64 s.came) ∧ w'.cell? ⟨w.heap.size, 4, none⟩ = some (.int .i64 s.twice) ∧ w'.cell? ⟨w.heap.size, 5, none⟩ = some (.int .i64 s.lost) ∧
  w'.cell? ⟨w.heap.size + 1, 0, none⟩ = some (.bool s.any) ∧ w'.cell? ⟨w.heap.size + 1, 1, none⟩ = some (.int .u32 s.top) ∧ w'.cell? ⟨w.heap.size + 1, 66, none⟩ = some (.int .i64 s.came) ∧ w'.cell? ⟨w.heap.size + 1, 67, none⟩ = some (.int .i64 s.twice) ∧ w'.cell? ⟨w.heap.size + 1, 68, none⟩ = some (.int .i64 s.lost))) ∧ (Hx (Blk w' w.heap.size (snc s) 29) ∧ Hx (Blk w' (w.heap.size + 1) (rsc s) 35) ∧ Hx (Kept [] w w')))
    (first | exact hSS | exact ⟨HI.out _ B0.out.drew E0.out.drew, ⟨B0.out.drew⟩, ⟨E0.out.drew⟩, ⟨K0.out.drew⟩⟩ | assumption)
    (first | (go_at_call 39; refine (HT.out _).mono ?_; rintro e w' ⟨rfl, hk⟩; have hSS := HG.out _ _ ‹_› hk))
  all_goals
    go_wp2
    go_ret
    exact ⟨rfl, hSS.2.2.2.out⟩
end Go.Proofs.Ythkjllphefnphaa
