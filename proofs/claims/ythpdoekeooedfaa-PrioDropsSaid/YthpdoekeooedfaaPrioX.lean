/- Peek, Room and Clone of the program's queue. -/
import Derived.Test.YthpdoekeooedfaaPrioW
import Derived.Deep.RegionLaw
import Derived.Deep.Onto
namespace Go.Proofs.Ythpdoekeooedfaa
open Go Go.RowKit
set_option maxHeartbeats 800000 in
theorem room_any (q : Nat) (v : Value) (room turns : Int) (h : List It) (w : World) (s : Qs w q v room turns h) :
    Calls Try.prog 31 #[.pointer (some ⟨q, 0, none⟩)] w fun e w' => e = .returned (.int .i64 room) ∧ w = w' := by
  have c0 := s.hq.cell (i := 0) rfl
  clear s
  go_enter Try.func31, Try.ntmps31
  go_wp2
  go_ret
  exact ⟨rfl, rfl⟩
def peekV : List It → Int × Int × Bool
  | [] => (0, 0, false)
  | x :: _ => (x.v, x.rank, true)
set_option maxRecDepth 100000 in
set_option maxHeartbeats 1600000 in
theorem peek_any (q : Nat) (v : Value) (room turns : Int) (h : List It) (w : World) (s : Qs w q v room turns h) :
    Calls Try.prog 30 #[.pointer (some ⟨q, 0, none⟩)] w fun e w' => e = .returned (.tuple #[.int .i64 (peekV h).1, .int .i64 (peekV h).2.1, .bool (peekV h).2.2]) ∧ Kept [] w w' := by
  have c2 := s.hq.cell (i := 2) rfl
  cases h with
  | nil =>
    have hv : ∃ a c, v = .slice a 0 c := by
      rcases s.own.2 with ⟨rfl, _⟩ | ⟨g, cap, cur, rfl, _⟩
      · exact ⟨_, _, rfl⟩
      · exact ⟨_, _, rfl⟩
    obtain ⟨a, c, rfl⟩ := hv
    clear s
    go_enter Try.func30, Try.ntmps30
    go_wp2
    exact bodyPost_ret (results_tmp3 rfl _ _ _) rfl ⟨rfl, Kept.refl _ _⟩
  | cons x h =>
    obtain ⟨g, cap, rest, rfl, m⟩ := s.toQm (by simp)
    obtain ⟨e0, _, e2⟩ := m.at 0 (by simp)
    simp only [Nat.zero_mul, Nat.zero_add, at_, List.getD_cons_zero] at e0 e2
    have hl : (0 : Int) < (((x :: h).length : Nat) : Int) := by simp <;> omega
    have hne : ((((x :: h).length : Nat) : Int) == 0) = false := by simp; omega
    clear s m
    generalize (x :: h).length = N at *
    go_enter Try.func30, Try.ntmps30
    go_wp2_with fail
    go_quiet (fail)
    have K := hx ((Kept.refl [] w).drewN nq)
    go_wp2
    exact bodyPost_ret (results_tmp3 rfl _ _ _) rfl ⟨rfl, K.out⟩
theorem own_slice {w : World} {base size : Nat} {e : TypeId} {v : Value} {n : Nat} {xs : List Value} (h : w.ownsRow base e size v n xs) : ∃ a c, v = .slice a n c := by
  rcases h.2 with ⟨rfl, rfl⟩ | ⟨g, cap, cur, rfl, _⟩
  · exact ⟨_, _, rfl⟩
  · exact ⟨_, _, rfl⟩
def ClP (w : World) (room turns : Int) (h : List It) (e : Ending) (w' : World) : Prop :=
  ∃ q v, e = .returned (.pointer (some ⟨q, 0, none⟩)) ∧ Qs w' q v room turns h ∧ w.heap.size ≤ q ∧ (∀ g, v.ownBlock = some g → w.heap.size ≤ g) ∧ Kept [] w w'
theorem cel_one (h : List It) : ∀ u ∈ cel h, u.oneCell' = true := by
  intro u hu
  simp only [cel, List.mem_flatMap, itc, List.mem_cons, List.not_mem_nil, or_false] at hu
  obtain ⟨x, _, rfl | rfl | rfl⟩ := hu <;> rfl
theorem infoIt3' : (Try.prog.info? 55).map (fun i => (i.zero, i.size, i.bytes)) = some (some (.agg #[.int .i64 0, .int .i64 0, .int .i64 0]), 3, 24) := by kernel_rfl
set_option maxRecDepth 100000 in
set_option maxHeartbeats 3200000 in
theorem clone_any (q : Nat) (v : Value) (room turns : Int) (h : List It) (w : World) (s : Qs w q v room turns h) (hb : h.length ≤ 1000) :
    Calls Try.prog 23 #[.pointer (some ⟨q, 0, none⟩)] w (ClP w room turns h) := by
  have c0 := s.hq.cell (i := 0) rfl
  have c1 := s.hq.cell (i := 1) rfl
  have c2 := s.hq.cell (i := 2) rfl
  have hform : ∃ a c, v = .slice a h.length c ∧ (a = none → c = 0) ∧ h.length ≤ c ∧ (∀ w1 : World, Kept [] w w1 → ∀ ad, a = some ad → ∀ j u, (cel h)[j]? = some u → w1.cell? (ad.add j) = some u) := by
    have ho := s.own
    rcases ho.2 with ⟨rfl, h0⟩ | ⟨g, cap, cur, rfl, _, _, hnc, _⟩
    · exact ⟨none, 0, by rw [h0], fun _ => rfl, by omega, fun w1 hk ad ha => by simp at ha⟩
    · refine ⟨_, cap, rfl, fun ha => by simp at ha, hnc, fun w1 hk ad ha j u hu => ?_⟩
      simp only [Option.some.injEq] at ha
      subst ha
      exact kept_cell hk (ho.cells rfl j u hu)
  obtain ⟨a, c, rfl, hnil, hcap, hcells⟩ := hform
  have HC := hx hcells
  have HN := hx hnil
  have HQB := hx (show ∀ (w1 : World) (v1 : Value), Blk (w1.alloc (.cells #[.int .i64 room, .int .i64 turns, v1] 53)) w1.heap.size [.int .i64 room, .int .i64 turns, v1] 53 from fun w1 v1 => Blk.new w1 [.int .i64 room, .int .i64 turns, v1] _)
  generalize hPP : ClP w room turns h = PP at *
  have HPP := hx hPP
  have HE := hx (World.ownsRow_made (base := w.heap.size) (e := 55) (size := 3) w.drew #[] 0 (Nat.le_refl _) (by decide) rfl)
  have HQ0 := hx s.hq
  have d0 := (s.hq.alloc (.cells #[] 55)).cell (i := 0) rfl
  have d1 := (s.hq.alloc (.cells #[] 55)).cell (i := 1) rfl
  have d2 := (s.hq.alloc (.cells #[] 55)).cell (i := 2) rfl
  have HKE := hx ((Kept.refl [] w).drew.alloc (.cells #[] 55))
  clear hcells hnil s hPP
  go_enter Try.func23, Try.ntmps23
  go_wp2_with fail
  go_region_law (first
    | (refine step_app rfl (.tmp 11) (.tmp 15) 51 rfl w.heap.size 55 (.agg #[.int .i64 0, .int .i64 0, .int .i64 0]) 3 24 infoIt3' Try.underlying51 rfl (by omega) (.slice (some ⟨w.heap.size, 0, none⟩) 0 0) 0 [] rfl HE.out a h.length c (cel h) rfl (by rw [cel_len]; omega) HN.out hcap (HC.out _ HKE.out) (cel_one h) (by unfold maxLen; omega) (by omega) HKE.out.size ?_; intro v4 w4 ho4 hg4; obtain ⟨a4, c4, rfl⟩ := own_slice ho4; have HO4 := hx ho4; have HK4 := hx (HKE.out.grown hg4 (fun q hq => .inr (by simp [Value.ownBlock] at hq; omega))); have f0 := (HK4.out.blk HQ0.out (by simp)).cell (i := 0) rfl; have f1 := (HK4.out.blk HQ0.out (by simp)).cell (i := 1) rfl; clear ho4 hg4))
  all_goals
    go_wp2
    go_ret
    rw [← HPP.out]
    have h4 := HO4.out
    rw [Nat.zero_add, List.nil_append] at h4
    refine ⟨w4.heap.size, _, rfl, ⟨HQB.out w4 _, (World.ownsRow.alloc h4 _).mono (Nat.zero_le _), fun e => ?_⟩, HK4.out.size, fun g hg => (h4.lt g hg).1, HK4.out.alloc _⟩
    have := (h4.lt _ e).2
    omega
end Go.Proofs.Ythpdoekeooedfaa
