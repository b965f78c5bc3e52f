/- nack: the page's example. -/
import Derived.Test.YteobkcmfpmolmaaNkX
namespace Go.Proofs.Yteobkcmfpmolmaa
open Go Go.RowKit Go.Shelf
theorem it_len {now : Int} {f : Int → Int} {s : List En} {l : List It} (h : s.map (itN now f) = l) : s.length = l.length := by rw [← h, List.length_map]
set_option maxRecDepth 100000 in
set_option maxHeartbeats 6400000 in
theorem nawake_any (w : World) : Calls Try.prog 6 #[] w fun e w' => e = .returned (.bool true) ∧ Kept [] w w' := by
  have HN := hx (pnew_any 4 w (by omega) (by omega))
  go_enter Try.func6, Try.ntmps6
  go_wp2_with fail
  refine HN.out.mono ?_
  rintro e w1 ⟨p, q, mb, rfl, d1⟩
  have W1 := hx (pwait_any d1 (by omega) 3 2 (by decide))
  clear d1 HN
  go_wp2_with fail
  refine W1.out.mono ?_
  rintro e w2 ⟨rfl, v2, no2, full2, h2, s2, f2, n2, _, d2, e2, _⟩
  have E2 := hx (show s2.map (itN 0 f2) = [(3, 2, 0)] from (congrArg Prod.fst e2).symm)
  have T2 := hx (ptick_any d2 (by omega) 4)
  clear d2 e2 W1
  go_wp2_with fail
  refine T2.out.mono ?_
  rintro e w3 ⟨v3, no3, h3, s3, f3, n3, a3, c3, rfl, _, d3, _, e3, _⟩
  rw [E2.out] at d3 e3 ⊢
  have E3 := hx (show s3.map (itN (0 + 1) f3) = [(3, 1, 0)] from e3.symm)
  have T3 := hx (ptick_any d3 (by omega) 4)
  clear d3 e3 T2 E2
  go_wp2_with fail
  refine T3.out.mono ?_
  rintro e w4 ⟨v4, no4, h4, s4, f4, n4, a4, c4, rfl, _, d4, i4, e4, _⟩
  rw [E3.out] at d4 e4 i4 ⊢
  have E4 := hx (show s4.map (itN (0 + 1 + 1) f4) = [(3, 8, 1)] from e4.symm)
  have HH := hx (phas_any d4 (by omega) 3)
  rw [E4.out] at HH
  obtain ⟨g, off, rfl, q0⟩ := i4 0 (by decide)
  have q1 : w4.cell? ⟨g, off, none⟩ = some (.int .u32 3) := q0
  have K4 := hx d4.k
  have z1 : (toldN [((3, 2, 0) : It)]).length = 0 := rfl
  have z2 : (toldN [((3, 1, 0) : It)]).length = 1 := rfl
  have z3 : hasN 3 [((3, 8, 1) : It)] = true := rfl
  rw [z3] at HH
  clear d4 e4 i4 q0 T3 E3 E4
  rw [z1, z2]
  go_wp2_with (go_at_call 10; refine HH.out.mono ?_; rintro e w5 ⟨rfl, hk5⟩; have K5 := hx (K4.out.trans0 hk5); clear hk5)
  go_ret
  exact ⟨rfl, K5.out⟩
end Go.Proofs.Yteobkcmfpmolmaa
