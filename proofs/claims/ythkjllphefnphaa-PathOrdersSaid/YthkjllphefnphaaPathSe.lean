import Derived.Test.YthkjllphefnphaaPathSd
namespace Go.Proofs.Ythkjllphefnphaa
open Go Go.RowKit
attribute [local go_sem ↓] exec_m5 exec_m6 exec_r5 exec_r69 exec_r78
attribute [local go_sem] goodMid_at midAt_at
theorem BB_of {n : Nat} {p q : Pa} {w3 : World} (h : Blk w3 n (rpc p) 37) (g : Blk w3 (n + 1) (rpc q) 37) :
    (midOf w3 n 0 78 = (rpc p).toArray ∧ hasMid w3 n 0 78 = true ∧ midOf w3 (n + 1) 0 78 = (rpc q).toArray ∧ hasMid w3 (n + 1) 0 78 = true) ∧ (midOf w3 n 0 5 = (stc p.s).toArray ∧ hasMid w3 n 0 5 = true ∧ midOf w3 (n + 1) 0 5 = (stc q.s).toArray ∧ hasMid w3 (n + 1) 0 5 = true) := by
  have a := h.mid (Part.all _)
  have b := h.hasMid (Part.all _)
  have c := g.mid (Part.all _)
  have d := g.hasMid (Part.all _)
  rw [rpc_len] at a b c d
  exact ⟨⟨a, b, c, d⟩, h.mid (rpc_s p), h.hasMid (rpc_s p), g.mid (rpc_s q), g.hasMid (rpc_s q)⟩
set_option maxRecDepth 100000 in
set_option maxHeartbeats 6400000 in
theorem rbetter_any (p q : Pa) (w : World) (k : Int) (hp : StOk p.s k) (hq : StOk q.s k) :
    Calls Try.prog 22 #[.agg (rpc p).toArray, .agg (rpc q).toArray] w fun e w' => e = .returned (.bool (decide (keyI p < keyI q))) ∧ Kept [] w w' := by
  have B0 := hx ((Blk.new w (rpc p) 37).alloc (.cells (rpc q).toArray 37))
  have E0 := hx (show Blk ((w.alloc (.cells (rpc p).toArray 37)).alloc (.cells (rpc q).toArray 37)) (w.heap.size + 1) (rpc q) 37 by
    have h := Blk.new (w.alloc (.cells (rpc p).toArray 37)) (rpc q) 37
    rw [show (w.alloc (.cells (rpc p).toArray 37)).heap.size = w.heap.size + 1 by simp] at h
    exact h)
  have K0 := hx (((Kept.refl [] w).alloc (.cells (rpc p).toArray 37)).alloc (.cells (rpc q).toArray 37))
  have HP := hx hp
  have HQ := hx hq
  have HG := hx (fun (w3 w4 : World) (h : ((midOf w3 w.heap.size 0 78 = (rpc p).toArray ∧ hasMid w3 w.heap.size 0 78 = true ∧ midOf w3 (w.heap.size + 1) 0 78 = (rpc q).toArray ∧ hasMid w3 (w.heap.size + 1) 0 78 = true) ∧ (midOf w3 w.heap.size 0 5 = (stc p.s).toArray ∧ hasMid w3 w.heap.size 0 5 = true ∧ midOf w3 (w.heap.size + 1) 0 5 = (stc q.s).toArray ∧ hasMid w3 (w.heap.size + 1) 0 5 = true)) ∧ (Hx (Blk w3 w.heap.size (rpc p) 37) ∧ Hx (Blk w3 (w.heap.size + 1) (rpc q) 37) ∧ Hx (Kept [] w w3))) (hk : Kept [] w3 w4) =>
    And.intro (BB_of (hk.blk h.2.1.out (by simp)) (hk.blk h.2.2.1.out (by simp))) (And.intro (hx (hk.blk h.2.1.out (by simp))) (And.intro (hx (hk.blk h.2.2.1.out (by simp))) (hx (h.2.2.2.out.trans0 hk)))))
  by_cases h : stateI p.quiet = stateI q.quiet
  · have z := hx (key_eq p q h)
    clear hp hq
    go_enter Try.func22, Try.ntmps22
    go_upto_region 1 with fail
    generalize (w.alloc (.cells (rpc p).toArray 37)).alloc (.cells (rpc q).toArray 37) = W0 at *
    go_region_held3 (fun w3 => ((midOf w3 w.heap.size 0 78 = (rpc p).toArray ∧ hasMid w3 w.heap.size 0 78 = true ∧ midOf w3 (w.heap.size + 1) 0 78 = (rpc q).toArray ∧ hasMid w3 (w.heap.size + 1) 0 78 = true) ∧ (midOf w3 w.heap.size 0 5 = (stc p.s).toArray ∧ hasMid w3 w.heap.size 0 5 = true ∧ midOf w3 (w.heap.size + 1) 0 5 = (stc q.s).toArray ∧ hasMid w3 (w.heap.size + 1) 0 5 = true)) ∧ (Hx (Blk w3 w.heap.size (rpc p) 37) ∧ Hx (Blk w3 (w.heap.size + 1) (rpc q) 37) ∧ Hx (Kept [] w w3)))
      (first | exact hSS | exact ⟨BB_of B0.out.drew E0.out.drew, ⟨B0.out.drew⟩, ⟨E0.out.drew⟩, ⟨K0.out.drew⟩⟩ | assumption)
      (first
       | (go_at_call 23; refine (rstate_any _ _).mono ?_; rintro e w' ⟨rfl, hk⟩; have hSS := HG.out _ _ ‹_› hk))
    all_goals
      go_upto_region 3 with fail
      go_region_held3 (fun w3 => ((midOf w3 w.heap.size 0 78 = (rpc p).toArray ∧ hasMid w3 w.heap.size 0 78 = true ∧ midOf w3 (w.heap.size + 1) 0 78 = (rpc q).toArray ∧ hasMid w3 (w.heap.size + 1) 0 78 = true) ∧ (midOf w3 w.heap.size 0 5 = (stc p.s).toArray ∧ hasMid w3 w.heap.size 0 5 = true ∧ midOf w3 (w.heap.size + 1) 0 5 = (stc q.s).toArray ∧ hasMid w3 (w.heap.size + 1) 0 5 = true)) ∧ (Hx (Blk w3 w.heap.size (rpc p) 37) ∧ Hx (Blk w3 (w.heap.size + 1) (rpc q) 37) ∧ Hx (Kept [] w w3)))
      (first | exact hSS | exact ⟨BB_of hSS.2.1.out.drew hSS.2.2.1.out.drew, ⟨hSS.2.1.out.drew⟩, ⟨hSS.2.2.1.out.drew⟩, ⟨hSS.2.2.2.out.drew⟩⟩ | assumption)
      (first
       | (go_at_call 35; refine (rscore_any _ _ k (by first | exact HP.out | exact HQ.out)).mono ?_; rintro e w' ⟨rfl, hk⟩; have hSS := HG.out _ _ ‹_› hk))
    all_goals
      go_wp2
      go_ret
      exact ⟨by rw [← z.out]; rfl, hSS.2.2.2.out⟩
  · have z := hx (key_ne p q k hp hq h)
    have hne : (stateI p.quiet != stateI q.quiet) = true := by simp [bne, h]
    clear hp hq h
    go_enter Try.func22, Try.ntmps22
    go_upto_region 1 with fail
    generalize (w.alloc (.cells (rpc p).toArray 37)).alloc (.cells (rpc q).toArray 37) = W0 at *
    go_region_held3 (fun w3 => ((midOf w3 w.heap.size 0 78 = (rpc p).toArray ∧ hasMid w3 w.heap.size 0 78 = true ∧ midOf w3 (w.heap.size + 1) 0 78 = (rpc q).toArray ∧ hasMid w3 (w.heap.size + 1) 0 78 = true) ∧ (midOf w3 w.heap.size 0 5 = (stc p.s).toArray ∧ hasMid w3 w.heap.size 0 5 = true ∧ midOf w3 (w.heap.size + 1) 0 5 = (stc q.s).toArray ∧ hasMid w3 (w.heap.size + 1) 0 5 = true)) ∧ (Hx (Blk w3 w.heap.size (rpc p) 37) ∧ Hx (Blk w3 (w.heap.size + 1) (rpc q) 37) ∧ Hx (Kept [] w w3)))
      (first | exact hSS | exact ⟨BB_of B0.out.drew E0.out.drew, ⟨B0.out.drew⟩, ⟨E0.out.drew⟩, ⟨K0.out.drew⟩⟩ | assumption)
      (first
       | (go_at_call 23; refine (rstate_any _ _).mono ?_; rintro e w' ⟨rfl, hk⟩; have hSS := HG.out _ _ ‹_› hk))
    all_goals
      go_upto_region 2 with fail
      go_region_held3 (fun w3 => ((midOf w3 w.heap.size 0 78 = (rpc p).toArray ∧ hasMid w3 w.heap.size 0 78 = true ∧ midOf w3 (w.heap.size + 1) 0 78 = (rpc q).toArray ∧ hasMid w3 (w.heap.size + 1) 0 78 = true) ∧ (midOf w3 w.heap.size 0 5 = (stc p.s).toArray ∧ hasMid w3 w.heap.size 0 5 = true ∧ midOf w3 (w.heap.size + 1) 0 5 = (stc q.s).toArray ∧ hasMid w3 (w.heap.size + 1) 0 5 = true)) ∧ (Hx (Blk w3 w.heap.size (rpc p) 37) ∧ Hx (Blk w3 (w.heap.size + 1) (rpc q) 37) ∧ Hx (Kept [] w w3)))
      (first | exact hSS | exact ⟨BB_of hSS.2.1.out.drew hSS.2.2.1.out.drew, ⟨hSS.2.1.out.drew⟩, ⟨hSS.2.2.1.out.drew⟩, ⟨hSS.2.2.2.out.drew⟩⟩ | assumption)
      (first
       | (go_at_call 23; refine (rstate_any _ _).mono ?_; rintro e w' ⟨rfl, hk⟩; have hSS := HG.out _ _ ‹_› hk))
    all_goals
      go_wp2
      go_ret
      exact ⟨by rw [← z.out]; rfl, hSS.2.2.2.out⟩
end Go.Proofs.Ythkjllphefnphaa
