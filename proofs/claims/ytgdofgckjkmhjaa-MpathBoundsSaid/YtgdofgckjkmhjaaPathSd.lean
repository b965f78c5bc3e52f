import Derived.Test.YtgdofgckjkmhjaaPathSc
namespace Go.Proofs.Ytgdofgckjkmhjaa
open Go Go.RowKit
attribute [local go_sem ↓] exec_m5 exec_m6
attribute [local go_sem] goodMid_at midAt_at
def keyI (p : Pa) : Int := stateI p.quiet * 1000000 - scoreI p.s
theorem key_ne (p q : Pa) (k : Int) (hp : StOk p.s k) (hq : StOk q.s k) (h : stateI p.quiet ≠ stateI q.quiet) : decide (stateI p.quiet < stateI q.quiet) = decide (keyI p < keyI q) := by
  have h1 := score_bd p.s k hp
  have h2 := score_bd q.s k hq
  unfold keyI
  apply Bool.eq_iff_iff.2
  simp only [decide_eq_true_eq]
  omega
theorem key_eq (p q : Pa) (h : stateI p.quiet = stateI q.quiet) : decide (scoreI q.s < scoreI p.s) = decide (keyI p < keyI q) := by
  unfold keyI
  apply Bool.eq_iff_iff.2
  simp only [decide_eq_true_eq]
  omega
set_option maxRecDepth 100000 in
set_option maxHeartbeats 3200000 in
theorem ahead_any (b c : Nat) (p q : Pa) (w : World) (k : Int) (hp : StOk p.s k) (hq : StOk q.s k) (hb : Blk w b (pac p) 61) (hc : Blk w c (pac q) 61) :
    Calls Try.prog 48 #[.pointer (some ⟨b, 0, none⟩), .pointer (some ⟨c, 0, none⟩)] w fun e w' => e = .returned (.bool (decide (keyI p < keyI q))) ∧ Kept [] w w' := by
  have HS := hx (state_any b 0 (pac p) _ p w hb (Part.all _))
  have HT := hx (state_any c 0 (pac q) _ q w hc (Part.all _))
  have HB := hx hb
  have HC := hx hc
  have HP := hx hp
  have HQ := hx hq
  by_cases h : stateI p.quiet = stateI q.quiet
  · have z := hx (key_eq p q h)
    rw [h] at HS
    generalize stateI q.quiet = y at *
    clear hb hc hp hq h
    go_enter Try.func48, Try.ntmps48
    go_wp2_with fail
    refine HS.out.mono ?_
    rintro e w1 ⟨rfl, rfl⟩
    go_wp2_with fail
    refine HT.out.mono ?_
    rintro e w1 ⟨rfl, rfl⟩
    go_upto_region 3 with fail
    clear HS HT
    have HG := hx (fun (w3 w4 : World) (h : ((midOf w3 b 0 5 = (stc p.s).toArray ∧ hasMid w3 b 0 5 = true) ∧ (midOf w3 c 0 5 = (stc q.s).toArray ∧ hasMid w3 c 0 5 = true)) ∧ (Hx (Blk w3 b (pac p) 61) ∧ Hx (Blk w3 c (pac q) 61) ∧ Hx (Kept [] w w3))) (hk : Kept [] w3 w4) =>
      And.intro (And.intro (midS_of (hk.blk h.2.1.out (by simp)) (pac_s (Part.all _))) (midS_of (hk.blk h.2.2.1.out (by simp)) (pac_s (Part.all _)))) (And.intro (hx (hk.blk h.2.1.out (by simp))) (And.intro (hx (hk.blk h.2.2.1.out (by simp))) (hx (h.2.2.2.out.trans0 hk)))))
    unfold midS at HG
    go_region_held3 (fun w3 => ((midOf w3 b 0 5 = (stc p.s).toArray ∧ hasMid w3 b 0 5 = true) ∧ (midOf w3 c 0 5 = (stc q.s).toArray ∧ hasMid w3 c 0 5 = true)) ∧ (Hx (Blk w3 b (pac p) 61) ∧ Hx (Blk w3 c (pac q) 61) ∧ Hx (Kept [] w w3)))
      (first | exact hSS | exact ⟨⟨midS_of HB.out.drew (pac_s (Part.all _)), midS_of HC.out.drew (pac_s (Part.all _))⟩, ⟨HB.out.drew⟩, ⟨HC.out.drew⟩, ⟨(Kept.refl _ _).drew⟩⟩ | assumption)
      (first
       | (go_at_call 51; refine (sbetter_any p.s q.s _ k HP.out HQ.out).mono ?_; rintro e w' ⟨rfl, hk⟩; have hSS := HG.out _ _ ‹_› hk))
    all_goals
      go_wp2
      go_ret
      exact ⟨by rw [← z.out]; rfl, hSS.2.2.2.out⟩
  · have z := hx (key_ne p q k hp hq h)
    have hne : (stateI p.quiet != stateI q.quiet) = true := by simp [bne, h]
    generalize stateI q.quiet = y at *
    generalize stateI p.quiet = x at *
    clear hb hc hp hq h
    go_enter Try.func48, Try.ntmps48
    go_wp2_with fail
    refine HS.out.mono ?_
    rintro e w1 ⟨rfl, rfl⟩
    go_wp2_with fail
    refine HT.out.mono ?_
    rintro e w1 ⟨rfl, rfl⟩
    go_wp2_with fail
    refine HS.out.mono ?_
    rintro e w1 ⟨rfl, rfl⟩
    go_wp2_with fail
    refine HT.out.mono ?_
    rintro e w1 ⟨rfl, rfl⟩
    go_wp2
    go_ret
    exact ⟨by rw [← z.out]; rfl, Kept.refl _ _⟩
end Go.Proofs.Ytgdofgckjkmhjaa
