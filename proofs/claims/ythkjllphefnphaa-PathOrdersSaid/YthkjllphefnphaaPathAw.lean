import Derived.Test.YthkjllphefnphaaPathPa
namespace Go.Proofs.Ythkjllphefnphaa
open Go Go.RowKit
set_option maxRecDepth 100000 in
set_option maxHeartbeats 3200000 in
theorem pawake_any (w : World) : Calls Try.prog 6 #[] w fun e w' => e = .returned (.bool true) ∧ Kept [] w w' := by
  obtain ⟨Z, hZ, hz⟩ := zeroPa'
  have B0 := hx (show Blk (w.alloc (.cells Z 31)) w.heap.size (pac pa0) 31 by
    have h := Blk.new' w Z 31
    rw [hZ] at h
    exact h)
  have K0 := hx ((Kept.refl [] w).alloc (.cells Z 31))
  clear hZ
  go_enter Try.func6, Try.ntmps6
  go_wp2_with fail
  clear hz
  generalize w.alloc (.cells Z 31) = W0 at *
  go_loopw [2] (fun iv wr => ∃ (i : Nat) (p : Pa), i ≤ 19 ∧ iv = .int .i64 i ∧ p.quiet = i ∧ p.gap = 0 ∧ PaOk p 0 (i : Int) ∧ Blk wr w.heap.size (pac p) 31 ∧ Kept [] w wr) (fun iv _ => 19 - (intOf iv).toNat)
  case atStart => exact ⟨0, pa0, by omega, rfl, rfl, rfl, by simpa using pa0_ok, B0.out, K0.out⟩
  case round =>
    clear B0 K0
    obtain ⟨i, p, hi, rfl, hq, hg, hok, hb, hk⟩ := hrel
    by_cases hlt : i < 19
    · have hj : (i : Int) < 19 := by omega
      have HT := hx (ptick w.heap.size p wr 0 i hb hok (by omega))
      have z : (tickP p).2 = false := by unfold tickP; rw [if_pos (by omega)]
      have HE := hx (show (tickP p).1.quiet = ((i + 1 : Nat) : Int) ∧ (tickP p).1.gap = 0 ∧ PaOk (tickP p).1 0 ((i + 1 : Nat) : Int) by
        refine ⟨?_, ?_, (tick_ok p 0 _ hok).mono (by omega) (by omega)⟩
        · unfold tickP; rw [if_pos (by omega)]; simp only; omega
        · unfold tickP; rw [if_pos (by omega)])
      rw [z] at HT
      have HK := hx hk
      clear hb hk hok hq hg z
      go_wp2_with fail
      refine HT.out.mono ?_
      rintro e w2 ⟨rfl, hb2, hk2⟩
      have HB2 := hx hb2
      have HK2 := hx (Kept.behind HK.out hk2 (Nat.le_refl _))
      clear hb2 hk2 HT HK
      go_wp2
      go_roundw
      case rel => exact ⟨i + 1, _, by omega, by go_num, HE.out.1, HE.out.2.1, HE.out.2.2, HB2.out, HK2.out⟩
      case measure => simp [intOf] <;> omega
    · obtain rfl : i = 19 := by omega
      have HS := hx (state_any w.heap.size 0 _ _ p wr hb (Part.all _))
      have HT := hx (ptick w.heap.size p wr 0 19 hb hok (by omega))
      have e1 : stateI p.quiet = 0 := by rw [hq]; rfl
      have z : (tickP p).2 = true := by unfold tickP; rw [if_neg (by omega), if_pos hg]
      have q2 : (tickP p).1.quiet = 20 := by unfold tickP; rw [if_neg (by omega), if_pos hg]; simp only; omega
      rw [e1] at HS
      rw [z] at HT
      have HK := hx hk
      have Q2 := hx q2
      clear hb hk hok hq hg z e1 q2
      go_wp2_with fail
      refine HS.out.mono ?_
      rintro e w2 ⟨rfl, rfl⟩
      go_wp2_with fail
      refine HT.out.mono ?_
      rintro e w3 ⟨rfl, hb3, hk3⟩
      have HS3 := hx (state_any w.heap.size 0 _ _ (tickP p).1 w3 hb3 (Part.all _))
      rw [Q2.out] at HS3
      have HK3 := hx (Kept.behind HK.out hk3 (Nat.le_refl _))
      clear hb3 hk3 HS HT HK
      go_wp2_with fail
      refine HS3.out.mono ?_
      rintro e w4 ⟨rfl, rfl⟩
      go_wp2
      go_ret
      exact ⟨rfl, HK3.out⟩
end Go.Proofs.Ythkjllphefnphaa
