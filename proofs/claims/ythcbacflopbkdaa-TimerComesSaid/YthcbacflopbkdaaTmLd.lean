/- The law TimerComes, and its arguments. -/
import Derived.Test.YthcbacflopbkdaaTmLc
import Derived.Deep.Slices
namespace Go.Proofs.Ythcbacflopbkdaa
open Go Go.RowKit Go.Deep Go.OpenShut Go.ChangeShapes Go.WideShapes Go.ChangeAt
theorem Pcs.nil (w : World) : Pcs w none 0 0 := ⟨Nat.le_refl _, fun i hi => by omega⟩
theorem pcs_of {H : Type} {enc : TypeId × Value → H} {w : World} {base : Nat} {held : Bool} {spare : Nat → Bool} {fuel : Nat} {v : Value} {x : DataW H × List MemPlace} (h : DataW.trod enc Try.prog w base spare held fuel 40 [v] = some x) : ∃ a n c, v = .slice a n c ∧ Pcs w a n c := by
  rcases open_slice1 Try.underlying40 (by kernel_rfl) h with ⟨h1, _⟩ | ⟨a, len, cap, m, n, V, D, Pl, h1, hb, hl, hm, hmm, _, hall⟩
  · exact ⟨none, 0, 0, by simpa using h1, Pcs.nil w⟩
  · have hle : len ≤ m := by rw [hmm]; split <;> omega
    refine ⟨some a, len, cap, by simpa using h1, hl, fun i hi => ?_⟩
    have hs : a.spot = none := by
      have h5 := World.cell?_spot (hall 0 (by omega)).1
      simpa [Addr.add] using h5
    obtain ⟨b, off, spot⟩ := a
    simp at hs
    subst hs
    obtain ⟨h2, h3⟩ := hall i (by omega)
    have hr : Rd enc Try.prog w base spare held 2 [V i] := ⟨n, _, h3⟩
    obtain ⟨y, hy, _⟩ := hr.int Try.underlying2
    simp only [List.cons.injEq, and_true] at hy
    rw [Addr.add_mid, hy] at h2
    exact ⟨b, off, y, rfl, h2⟩
section
variable {H : Type} {enc : TypeId × Value → H} {w : World} {base : Nat} {spare : Nat → Bool} {held : Bool}
theorem opc_of {cs : List Value} (hr : Rd enc Try.prog w base spare held 39 cs) : ∃ k m t : Int, cs = op3 k m t := by
  have c3 : Try.prog.cellsOf 39 = 3 := by kernel_rfl
  have ci : Try.prog.cellsOf 3 = 1 := by kernel_rfl
  have ci6 : Try.prog.cellsOf 2 = 1 := by kernel_rfl
  have hlen := hr.len Try.underlying39
  rw [c3] at hlen
  obtain ⟨k, e0, _⟩ := (hr.field Try.underlying39 0 _ rfl).int Try.underlying3
  obtain ⟨m, e1, _⟩ := (hr.field Try.underlying39 1 _ rfl).int Try.underlying3
  obtain ⟨t, e2, _⟩ := (hr.field Try.underlying39 2 _ rfl).int Try.underlying2
  change (cs.drop 0).take (Try.prog.cellsOf 3) = _ at e0
  change (cs.drop 1).take (Try.prog.cellsOf 3) = _ at e1
  change (cs.drop 2).take (Try.prog.cellsOf 2) = _ at e2
  rw [ci] at e0 e1
  rw [ci6] at e2
  have g0 : cs[0]? = some (.int .i64 k) := at_of e0
  have g1 : cs[1]? = some (.int .i64 m) := at_of e1
  have g2 : cs[2]? = some (.int .i64 t) := at_of e2
  refine ⟨k, m, t, ?_⟩
  apply List.ext_getElem?
  intro j
  match j with
  | 0 => rw [g0]; rfl
  | 1 => rw [g1]; rfl
  | 2 => rw [g2]; rfl
  | j + 3 => rw [List.getElem?_eq_none (by omega)]; rfl
end
set_option maxRecDepth 100000 in
set_option maxHeartbeats 3200000 in
theorem law_timer_comes (a : Option Addr) (len cap : Nat) (k m t : Int) (pa : Option Addr) (plen pcap : Nat) (w : World) (hA : Ops w a len cap) (hP : Pcs w pa plen pcap) :
    Calls Try.prog 5 #[.slice a len cap, .agg #[.int .i64 k, .int .i64 m, .int .i64 t], .slice pa plen pcap] w fun e w' => e = .returned (.bool true) ∧ Kept [] w w' := by
  have HA := hx hA
  have HP := hx hP
  have HB := hx (Blk.new w (op3 k m t) 39)
  have HK := hx ((Kept.refl [] w).alloc (.cells #[.int .i64 k, .int .i64 m, .int .i64 t] 39))
  clear hA hP
  go_enter Try.func5, Try.ntmps5
  go_wp2_with fail
  generalize w.alloc (.cells #[.int .i64 k, .int .i64 m, .int .i64 t] 39) = W at *
  refine (tawake_any W).mono ?_
  rintro e w1 ⟨rfl, hk1⟩
  have HK1 := hx (HK.out.trans0 hk1)
  have HB1 := hx (hk1.blk HB.out (by simp))
  have c1 := HB1.out.cell (i := 1) rfl
  have c2 := HB1.out.cell (i := 2) rfl
  have HC := hx (tcomes_any m t a len cap pa plen pcap w1 (HA.out.kept HK1.out) (HP.out.kept HK1.out))
  clear hk1 HB HK
  go_wp2_with fail
  refine HC.out.mono ?_
  rintro e w2 ⟨rfl, hk2⟩
  have HK2 := hx (HK1.out.trans0 hk2)
  clear hk2
  go_wp2
  go_ret
  exact ⟨rfl, HK2.out⟩
end Go.Proofs.Ythcbacflopbkdaa
