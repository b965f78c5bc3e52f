import Derived.Test.YthkjllphefnphaaPathSa
namespace Go.Proofs.Ythkjllphefnphaa
open Go Go.RowKit
theorem infoSsp (s : St) : (Try.prog.info? 25).map (·.size) = some 5 := by kernel_rfl
theorem infoSqp (s : Sn) : (Try.prog.info? 29).map (·.size) = some 6 := by kernel_rfl
theorem exec_m5 (w : World) (ev : Operand → Value) (dst : Option Tmp) (x : Operand) (t2 : TypeId) (pos : String) (af : Array Edge) (g : Option (Nat × Bool)) (h : goodMid w 5 (ev x) = true) :
    (execOp ev { dst := dst, op := .load 25 x, type := t2, pos := pos, after := af, guard := g }).run Try.prog w = .ok (.value (.agg (midAt w 5 (ev x)))) w :=
  exec_mid 25 5 _ Try.underlying25 rfl (infoSsp st0) ev _ x rfl h
theorem exec_m6 (w : World) (ev : Operand → Value) (dst : Option Tmp) (x : Operand) (t2 : TypeId) (pos : String) (af : Array Edge) (g : Option (Nat × Bool)) (h : goodMid w 6 (ev x) = true) :
    (execOp ev { dst := dst, op := .load 29 x, type := t2, pos := pos, after := af, guard := g }).run Try.prog w = .ok (.value (.agg (midAt w 6 (ev x)))) w :=
  exec_mid 29 6 _ Try.underlying29 rfl (infoSqp sn0) ev _ x rfl h
theorem exec_r5 (w : World) (ev : Operand → Value) (dst : Option Tmp) (x : Operand) (t2 : TypeId) (pos : String) (af : Array Edge) (g : Option (Nat × Bool)) (h : goodMid w 5 (ev x) = true) :
    (execOp ev { dst := dst, op := .load 32 x, type := t2, pos := pos, after := af, guard := g }).run Try.prog w = .ok (.value (.agg (midAt w 5 (ev x)))) w :=
  exec_mid 32 5 _ Try.underlying32 rfl infoSt ev _ x rfl h
theorem exec_r69 (w : World) (ev : Operand → Value) (dst : Option Tmp) (x : Operand) (t2 : TypeId) (pos : String) (af : Array Edge) (g : Option (Nat × Bool)) (h : goodMid w 69 (ev x) = true) :
    (execOp ev { dst := dst, op := .load 35 x, type := t2, pos := pos, after := af, guard := g }).run Try.prog w = .ok (.value (.agg (midAt w 69 (ev x)))) w :=
  exec_mid 35 69 _ Try.underlying35 rfl infoRs69 ev _ x rfl h
theorem exec_r78 (w : World) (ev : Operand → Value) (dst : Option Tmp) (x : Operand) (t2 : TypeId) (pos : String) (af : Array Edge) (g : Option (Nat × Bool)) (h : goodMid w 78 (ev x) = true) :
    (execOp ev { dst := dst, op := .load 37 x, type := t2, pos := pos, after := af, guard := g }).run Try.prog w = .ok (.value (.agg (midAt w 78 (ev x)))) w :=
  exec_mid 37 78 _ Try.underlying37 rfl infoRp ev _ x rfl h
attribute [local go_sem ↓] exec_m5 exec_m6 exec_r5 exec_r69 exec_r78
attribute [local go_sem] goodMid_at midAt_at
theorem Part.all (xs : List Value) : Part xs 0 xs := ⟨by simp, fun k _ => by simp⟩
theorem C14_of (n : Nat) (p : Pa) (w' : World) (hb : Blk w' n (pac p) 31) (he : Blk w' (n + 1) (rpc p) 37) :
  (midOf w' n 0 5 = (stc p.s).toArray ∧ hasMid w' n 0 5 = true ∧ midOf w' n 5 6 = (snc p.seen).toArray ∧ hasMid w' n 5 6 = true ∧
   midOf w' (n + 1) 0 5 = (stc p.s).toArray ∧ hasMid w' (n + 1) 0 5 = true ∧ midOf w' (n + 1) 5 69 = (rsc p.seen).toArray ∧ hasMid w' (n + 1) 5 69 = true ∧
   midOf w' (n + 1) 0 78 = (rpc p).toArray ∧ hasMid w' (n + 1) 0 78 = true) ∧
  (w'.cell? ⟨n, 11, none⟩ = some (.int .i64 p.quiet) ∧ w'.cell? ⟨n, 12, none⟩ = some (.int .i64 p.probe) ∧ w'.cell? ⟨n, 13, none⟩ = some (.int .i64 p.gap) ∧ w'.cell? ⟨n, 14, none⟩ = some (.int .u32 p.next) ∧
   w'.cell? ⟨n + 1, 74, none⟩ = some (.int .i64 p.quiet) ∧ w'.cell? ⟨n + 1, 75, none⟩ = some (.int .i64 p.probe) ∧ w'.cell? ⟨n + 1, 76, none⟩ = some (.int .i64 p.gap) ∧ w'.cell? ⟨n + 1, 77, none⟩ = some (.int .u32 p.next)) := by
  have a := he.mid (rpc_seen p)
  have b := he.hasMid (rpc_seen p)
  have c := he.mid (Part.all _)
  have d := he.hasMid (Part.all _)
  rw [rsc_len] at a b
  rw [rpc_len] at c d
  have pa := pac_s (Part.all (pac p))
  have pb := pac_seen (Part.all (pac p))
  exact ⟨⟨hb.mid pa, hb.hasMid pa, hb.mid pb, hb.hasMid pb, he.mid (rpc_s p), he.hasMid (rpc_s p), a, b, c, d⟩,
    hb.cell rfl, hb.cell rfl, hb.cell rfl, hb.cell rfl, he.cell (rpc_tail p 0 (by omega)), he.cell (rpc_tail p 1 (by omega)), he.cell (rpc_tail p 2 (by omega)), he.cell (rpc_tail p 3 (by omega))⟩
set_option maxRecDepth 100000 in
set_option maxHeartbeats 6400000 in
theorem lsame14 (p : Pa) (w : World) (hbits : p.seen.bits < 18446744073709551616) :
    Calls Try.prog 18 #[.agg (pac p).toArray, .agg (rpc p).toArray] w fun e w' => e = .returned (.bool true) ∧ Kept [] w w' := by
  have b0 := (Blk.new w (pac p) 31).alloc (.cells (rpc p).toArray 37)
  have e0 : Blk ((w.alloc (.cells (pac p).toArray 31)).alloc (.cells (rpc p).toArray 37)) (w.heap.size + 1) (rpc p) 37 := by
    have h := Blk.new (w.alloc (.cells (pac p).toArray 31)) (rpc p) 37
    rw [show (w.alloc (.cells (pac p).toArray 31)).heap.size = w.heap.size + 1 by simp] at h
    exact h
  have k0 : Kept [] w ((w.alloc (.cells (pac p).toArray 31)).alloc (.cells (rpc p).toArray 37)) := ((Kept.refl _ _).alloc _).alloc _
  have B0 := hx b0
  have E0 := hx e0
  have K0 := hx k0
  have HT := hx (fun w => lsame08 p.seen w hbits)
  have HI := hx (C14_of w.heap.size p)
  have HG := hx (fun (w3 w4 : World) (h : ((midOf w3 w.heap.size 0 5 = (stc p.s).toArray ∧ hasMid w3 w.heap.size 0 5 = true ∧ midOf w3 w.heap.size 5 6 = (snc p.seen).toArray ∧ hasMid w3 w.heap.size 5 6 = true ∧
   midOf w3 (w.heap.size + 1) 0 5 = (stc p.s).toArray ∧ hasMid w3 (w.heap.size + 1) 0 5 = true ∧ midOf w3 (w.heap.size + 1) 5 69 = (rsc p.seen).toArray ∧ hasMid w3 (w.heap.size + 1) 5 69 = true ∧
   midOf w3 (w.heap.size + 1) 0 78 = (rpc p).toArray ∧ hasMid w3 (w.heap.size + 1) 0 78 = true) ∧
  (w3.cell? ⟨w.heap.size, 11, none⟩ = some (.int .i64 p.quiet) ∧ w3.cell? ⟨w.heap.size, 12, none⟩ = some (.int .i64 p.probe) ∧ w3.cell? ⟨w.heap.size, 13, none⟩ = some (.int .i64 p.gap) ∧ w3.cell? ⟨w.heap.size, 14, none⟩ = some (.int .u32 p.next) ∧
   w3.cell? ⟨w.heap.size + 1, 74, none⟩ = some (.int .i64 p.quiet) ∧ w3.cell? ⟨w.heap.size + 1, 75, none⟩ = some (.int .i64 p.probe) ∧ w3.cell? ⟨w.heap.size + 1, 76, none⟩ = some (.int .i64 p.gap) ∧ w3.cell? ⟨w.heap.size + 1, 77, none⟩ = some (.int .u32 p.next))) ∧ (Hx (Blk w3 w.heap.size (pac p) 31) ∧ Hx (Blk w3 (w.heap.size + 1) (rpc p) 37) ∧ Hx (Kept [] w w3))) (hk : Kept [] w3 w4) =>
    And.intro (HI.out w4 (hk.blk h.2.1.out (by simp)) (hk.blk h.2.2.1.out (by simp))) (And.intro (hx (hk.blk h.2.1.out (by simp))) (And.intro (hx (hk.blk h.2.2.1.out (by simp))) (hx (h.2.2.2.out.trans0 hk)))))
  clear b0 e0 k0 hbits
  go_enter Try.func18, Try.ntmps18
  go_upto_region 1 with fail
  generalize (w.alloc (.cells (pac p).toArray 31)).alloc (.cells (rpc p).toArray 37) = W0 at *
  go_region_held3 (fun w3 => ((midOf w3 w.heap.size 0 5 = (stc p.s).toArray ∧ hasMid w3 w.heap.size 0 5 = true ∧ midOf w3 w.heap.size 5 6 = (snc p.seen).toArray ∧ hasMid w3 w.heap.size 5 6 = true ∧
   midOf w3 (w.heap.size + 1) 0 5 = (stc p.s).toArray ∧ hasMid w3 (w.heap.size + 1) 0 5 = true ∧ midOf w3 (w.heap.size + 1) 5 69 = (rsc p.seen).toArray ∧ hasMid w3 (w.heap.size + 1) 5 69 = true ∧
   midOf w3 (w.heap.size + 1) 0 78 = (rpc p).toArray ∧ hasMid w3 (w.heap.size + 1) 0 78 = true) ∧
  (w3.cell? ⟨w.heap.size, 11, none⟩ = some (.int .i64 p.quiet) ∧ w3.cell? ⟨w.heap.size, 12, none⟩ = some (.int .i64 p.probe) ∧ w3.cell? ⟨w.heap.size, 13, none⟩ = some (.int .i64 p.gap) ∧ w3.cell? ⟨w.heap.size, 14, none⟩ = some (.int .u32 p.next) ∧
   w3.cell? ⟨w.heap.size + 1, 74, none⟩ = some (.int .i64 p.quiet) ∧ w3.cell? ⟨w.heap.size + 1, 75, none⟩ = some (.int .i64 p.probe) ∧ w3.cell? ⟨w.heap.size + 1, 76, none⟩ = some (.int .i64 p.gap) ∧ w3.cell? ⟨w.heap.size + 1, 77, none⟩ = some (.int .u32 p.next))) ∧ (Hx (Blk w3 w.heap.size (pac p) 31) ∧ Hx (Blk w3 (w.heap.size + 1) (rpc p) 37) ∧ Hx (Kept [] w w3)))
    (first | exact hSS | exact ⟨HI.out _ B0.out.drew E0.out.drew, ⟨B0.out.drew⟩, ⟨E0.out.drew⟩, ⟨K0.out.drew⟩⟩ | assumption)
    (first
     | (go_at_call 30; refine (lsame13 p.s _).mono ?_; rintro e w' ⟨rfl, hk⟩; have hSS := HG.out _ _ ‹_› hk)
     | (go_at_call 31; refine (HT.out _).mono ?_; rintro e w' ⟨rfl, hk⟩; have hSS := HG.out _ _ ‹_› hk)
     | (go_at_call 10; refine (state_any w.heap.size 0 (pac p) 31 p _ hSS.2.1.out (Part.all _)).mono ?_; rintro e w' ⟨rfl, rfl⟩)
     | (go_at_call 23; refine (rstate_any p _).mono ?_; rintro e w' ⟨rfl, hk⟩; have hSS := HG.out _ _ ‹_› hk))
  all_goals
    go_wp2
    go_ret
    exact ⟨rfl, hSS.2.2.2.out⟩
end Go.Proofs.Ythkjllphefnphaa
