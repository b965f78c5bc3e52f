import Derived.Test.YtgdofgckjkmhjaaPathSb
namespace Go.Proofs.Ytgdofgckjkmhjaa
open Go Go.RowKit
attribute [local go_sem ↓] exec_m5 exec_m6
attribute [local go_sem] goodMid_at midAt_at
def scoreI (s : St) : Int := (65536 - s.loss) * 64 / (64 + s.rtt)
theorem score_bd (s : St) (k : Int) (h : StOk s k) : 0 ≤ scoreI s ∧ scoreI s ≤ 65536 := by
  obtain ⟨⟨h1, h2⟩, ⟨h3, h4⟩, _, _, _⟩ := h
  unfold scoreI
  refine ⟨Int.ediv_nonneg (by omega) (by omega), ?_⟩
  exact Int.ediv_le_of_le_mul (by omega) (by omega)
set_option maxHeartbeats 800000 in
theorem score_any (s : St) (w : World) (k : Int) (hs : StOk s k) :
    Calls Try.prog 53 #[.agg (stc s).toArray] w fun e w' => e = .returned (.int .i64 (scoreI s)) ∧ Kept [] w w' := by
  have b0 := Blk.new w (stc s) 56
  have c0 := b0.cell (i := 0) (v := .int .i64 s.loss) rfl
  have c1 := b0.cell (i := 1) (v := .int .i64 s.rtt) rfl
  have K := hx ((Kept.refl [] w).alloc (.cells (stc s).toArray 56))
  have bd := score_bd s k hs
  obtain ⟨⟨h1, h2⟩, ⟨h3, h4⟩, _, _, _⟩ := hs
  have hC := hx (show max 0 (min s.loss (max 0 65535)) = s.loss by omega)
  clear b0
  go_enter Try.func53, Try.ntmps53
  go_wp2_with fail
  refine (clamp_any s.loss 0 65535 _).mono ?_
  rintro e w1 ⟨rfl, rfl⟩
  rw [hC.out]
  have hne : 64 + s.rtt ≠ 0 := by omega
  have hmax : max s.rtt 0 = s.rtt := by omega
  go_wp2
  go_ret
  exact ⟨rfl, K.out⟩
def midS (w' : World) (n o : Nat) (s : St) : Prop := midOf w' n o 5 = (stc s).toArray ∧ hasMid w' n o 5 = true
theorem midS_of {w' : World} {n o : Nat} {s : St} {xs : List Value} {T : TypeId} (h : Blk w' n xs T) (hp : Part xs o (stc s)) : midS w' n o s := ⟨h.mid hp, h.hasMid hp⟩
set_option maxRecDepth 100000 in
set_option maxHeartbeats 1600000 in
theorem sbetter_any (s t : St) (w : World) (k : Int) (hs : StOk s k) (ht : StOk t k) :
    Calls Try.prog 51 #[.agg (stc s).toArray, .agg (stc t).toArray] w fun e w' => e = .returned (.bool (decide (scoreI t < scoreI s))) ∧ Kept [] w w' := by
  have B0 := hx ((Blk.new w (stc s) 56).alloc (.cells (stc t).toArray 56))
  have E0 := hx (show Blk ((w.alloc (.cells (stc s).toArray 56)).alloc (.cells (stc t).toArray 56)) (w.heap.size + 1) (stc t) 56 by
    have h := Blk.new (w.alloc (.cells (stc s).toArray 56)) (stc t) 56
    rw [show (w.alloc (.cells (stc s).toArray 56)).heap.size = w.heap.size + 1 by simp] at h
    exact h)
  have K0 := hx (((Kept.refl [] w).alloc (.cells (stc s).toArray 56)).alloc (.cells (stc t).toArray 56))
  have HT := hx hs
  have HU := hx ht
  have HG := hx (fun (w3 w4 : World) (h : ((midOf w3 w.heap.size 0 5 = (stc s).toArray ∧ hasMid w3 w.heap.size 0 5 = true) ∧ (midOf w3 (w.heap.size + 1) 0 5 = (stc t).toArray ∧ hasMid w3 (w.heap.size + 1) 0 5 = true)) ∧ (Hx (Blk w3 w.heap.size (stc s) 56) ∧ Hx (Blk w3 (w.heap.size + 1) (stc t) 56) ∧ Hx (Kept [] w w3))) (hk : Kept [] w3 w4) =>
    And.intro (And.intro (midS_of (hk.blk h.2.1.out (by simp)) (Part.all _)) (midS_of (hk.blk h.2.2.1.out (by simp)) (Part.all _))) (And.intro (hx (hk.blk h.2.1.out (by simp))) (And.intro (hx (hk.blk h.2.2.1.out (by simp))) (hx (h.2.2.2.out.trans0 hk)))))
  unfold midS at HG
  clear hs ht
  go_enter Try.func51, Try.ntmps51
  go_upto_region 1 with fail
  generalize (w.alloc (.cells (stc s).toArray 56)).alloc (.cells (stc t).toArray 56) = W0 at *
  go_region_held3 (fun w3 => ((midOf w3 w.heap.size 0 5 = (stc s).toArray ∧ hasMid w3 w.heap.size 0 5 = true) ∧ (midOf w3 (w.heap.size + 1) 0 5 = (stc t).toArray ∧ hasMid w3 (w.heap.size + 1) 0 5 = true)) ∧ (Hx (Blk w3 w.heap.size (stc s) 56) ∧ Hx (Blk w3 (w.heap.size + 1) (stc t) 56) ∧ Hx (Kept [] w w3)))
    (first | exact hSS | exact ⟨⟨midS_of B0.out.drew (Part.all _), midS_of E0.out.drew (Part.all _)⟩, ⟨B0.out.drew⟩, ⟨E0.out.drew⟩, ⟨K0.out.drew⟩⟩ | assumption)
    (first
     | (go_at_call 53; refine (score_any _ _ k (by first | exact HT.out | exact HU.out)).mono ?_; rintro e w' ⟨rfl, hk⟩; have hSS := HG.out _ _ ‹_› hk))
  all_goals
    go_wp2
    go_ret
    exact ⟨rfl, hSS.2.2.2.out⟩
end Go.Proofs.Ytgdofgckjkmhjaa
