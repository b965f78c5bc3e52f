/- What goes goes by rank, in plain terms. The law's example. -/
import Derived.Test.YtgdofgckjkmhjaaMpF
namespace Go.Proofs.Ytgdofgckjkmhjaa.Mp
open Go Go.RowKit
/-- What has gone: whose datagrams they were. -/
structure Gone (s : List Qd.It) (l : List (Nat × Qd.Dv)) (rest : List Qd.It) (its : List Qd.It) : Prop where
  len : its.length = l.length
  a : ∀ (j : Nat) y x, l[j]? = some y → its[j]? = some x → y.2.d.a = x.v.d.a
  sub : ∀ x, x ∈ its → x ∈ s
  rst : ∀ x, x ∈ rest → x ∈ s
  ord : its.Pairwise (fun x y => x = y ∨ Qd.lt x y)
  aft : ∀ x, x ∈ its → ∀ y, y ∈ rest → Qd.lt x y
theorem stA_a (m : Ms) (x : Qd.Dv) (l : List Nat) : ∀ n (j : Nat) y, (stA m x l n).2[j]? = some y → y.2.d.a = x.d.a
  | 0, j, y, h => by simp [stA] at h
  | n + 1, j, y, h => by
    have h2 : ((stA m x l n).2 ++ [(l.getD n 0, stD (stA m x l n).1 (l.getD n 0) x)])[j]? = some y := h
    rcases Nat.lt_or_ge j (stA m x l n).2.length with hj | hj
    · rw [List.getElem?_append_left hj] at h2
      exact stA_a m x l n j y h2
    · rw [List.getElem?_append_right hj] at h2
      have h3 := List.mem_of_getElem? h2
      simp only [List.mem_cons, List.not_mem_nil, or_false] at h3
      subst h3
      rfl
theorem flush_gone : ∀ (s : List Qd.It) (m : Ms), s.Pairwise Qd.lt → m.s = s → ∃ its, Gone s (flushL s m).2 (flushL s m).1.s its
  | [], m, _, hs => ⟨[], by
    simp only [flushL]
    exact ⟨rfl, fun j y x h _ => by simp at h, fun x h => by simp at h, fun x h => by rw [hs] at h; exact h, .nil, fun x h => by simp at h⟩⟩
  | it :: r, m, hp, hs => by
    rw [List.pairwise_cons] at hp
    by_cases hgo : sizeI it.v * ((waysF m it).length : Int) ≤ m.held
    · have hgs : (goF m it r).1.s = r := by unfold goF; rw [stA_s]
      obtain ⟨its, h⟩ := flush_gone r (goF m it r).1 hp.2 hgs
      have hfl : flushL (it :: r) m = ((flushL r (goF m it r).1).1, (goF m it r).2 ++ (flushL r (goF m it r).1).2) := by rw [flushL, if_pos hgo]
      have hgl : (goF m it r).2.length = (waysF m it).length := by unfold goF; rw [stA_len]
      have hga : ∀ (j : Nat) y, (goF m it r).2[j]? = some y → y.2.d.a = it.v.d.a := fun j y hy => stA_a _ _ _ _ j y hy
      refine ⟨List.replicate (waysF m it).length it ++ its, ?_⟩
      rw [hfl]
      refine ⟨by simp [hgl, h.len], fun j y x hy hx => ?_, fun x hx => ?_, fun x hx => .tail _ (h.rst x hx), ?_, fun x hx y hy => ?_⟩
      · rcases Nat.lt_or_ge j (waysF m it).length with hj | hj
        · simp only at hy
          rw [List.getElem?_append_left (by omega)] at hy
          rw [List.getElem?_append_left (by simpa using hj)] at hx
          have hx2 : x = it := by
            have := List.mem_of_getElem? hx
            simp at this
            exact this.2
          rw [hx2]
          exact hga j y hy
        · simp only at hy
          rw [List.getElem?_append_right (by omega), hgl] at hy
          rw [List.getElem?_append_right (by simpa using hj)] at hx
          simp only [List.length_replicate] at hx
          exact h.a _ y x hy hx
      · rcases List.mem_append.1 hx with h1 | h1
        · have h2 := (List.mem_replicate.1 h1).2
          rw [h2]
          exact List.mem_cons_self
        · exact .tail _ (h.sub x h1)
      · rw [List.pairwise_append]
        refine ⟨?_, h.ord, fun x hx y hy => ?_⟩
        · exact List.pairwise_replicate.2 (.inr (.inl rfl))
        · rw [(List.mem_replicate.1 hx).2]
          exact .inr (hp.1 y (h.sub y hy))
      · rcases List.mem_append.1 hx with h1 | h1
        · rw [(List.mem_replicate.1 h1).2]
          exact hp.1 y (h.rst y hy)
        · exact h.aft x h1 y hy
    · have hfl : flushL (it :: r) m = ({ m with hold := m.hold + 1 }, []) := by rw [flushL, if_neg hgo]
      refine ⟨[], ?_⟩
      rw [hfl]
      exact ⟨rfl, fun j y x h _ => by simp at h, fun x h => by simp at h, fun x h => by rw [← hs]; exact h, .nil, fun x h => by simp at h⟩
end Go.Proofs.Ytgdofgckjkmhjaa.Mp
namespace Go.Proofs.Ytgdofgckjkmhjaa.Mp
open Go Go.RowKit
open Qd (dvl dv0 dvl_one infoDg step_of)
theorem push_ok {m : Ms} {k t rank : Int} {d : Dg} {x : Qd.Dv} (o : Ok m k t) (hc : chk (pushD m d) = 0) (hx : x.d = pushD m d) : Ok { pushM m rank x with drop := if goneB m.room m.s then m.drop + 1 else m.drop } (k + 1) t := by
  refine ⟨o.p0.mono (by omega) (Int.le_refl _), o.p1.mono (by omega) (Int.le_refl _), o.rt, o.burst, o.held, o.spent, o.full, o.room, ⟨by show 0 ≤ m.turns + 1; have := o.turns; omega, by show m.turns + 1 ≤ k + 1; have := o.turns; omega⟩, pushS_len o.len, o.sess, o.now, ?_, o.hold, fun y hy => ?_⟩
  · have h := o.drop
    show 0 ≤ (if goneB m.room m.s then m.drop + 1 else m.drop) ∧ (if goneB m.room m.s then m.drop + 1 else m.drop) ≤ k + 1
    split <;> omega
  · rcases pushS_mem hy with rfl | h
    · show chk x.d = 0 ∧ x.d.data.length ≤ 1200 ∧ x.d.sess = m.sess ∧ x.d.path = 0
      rw [hx]
      exact ⟨hc, chk_len hc, rfl, rfl⟩
    · exact o.its y h
/-- Where the example stands. -/
structure Awk (i : Nat) (m : Ms) : Prop where
  ok : Ok m i 0
  key : ¬ keyI m.p1 < keyI m.p0
  held : m.held = 66
  room : m.room = 9
  len : m.s.length = i
  its : ∀ x, x ∈ m.s → x.rank = 2 ∧ x.v.d.data = []
def kd0 : Dg := { Qd.dg0 with kind := 7 }
theorem builtK : Try.prog.built 34 [(0, .int .i64 7)] = some (dgl kd0 none 0).toArray := by kernel_rfl
theorem awk_push {i : Nat} {m : Ms} {x : Qd.Dv} (h : Awk i m) (hi : i < 3) (hc : chk (pushD m kd0) = 0) (hx : x.d = pushD m kd0) : Awk (i + 1) { pushM m 2 x with drop := if goneB m.room m.s then m.drop + 1 else m.drop } := by
  refine ⟨by have := push_ok (rank := 2) h.ok hc hx; push_cast; exact this, h.key, h.held, h.room, ?_, fun y hy => ?_⟩
  · show (pushS m.room m.s ⟨2, m.turns + 1, x⟩).length = i + 1
    unfold pushS
    have hl := Qd.ins_len m.s ⟨2, m.turns + 1, x⟩
    rw [if_neg (by rw [h.room, hl, h.len]; push_cast; omega), hl, h.len]
  · rcases pushS_mem hy with rfl | h2
    · exact ⟨rfl, by show x.d.data = []; rw [hx]; rfl⟩
    · exact h.its y h2
theorem go_one {m : Ms} {it : Qd.It} (r : List Qd.It) (hk : ¬ keyI m.p1 < keyI m.p0) (h2 : it.rank = 2) (hd : it.v.d.data = []) :
    waysF m it = [0] ∧ sizeI it.v = 33 ∧ (goF m it r).1.s = r ∧ (goF m it r).1.held = m.held - 33 ∧ ¬ keyI (goF m it r).1.p1 < keyI (goF m it r).1.p0 ∧ (goF m it r).2.length = 1 := by
  have h1 : choM m it.rank = [0] := by
    unfold choM
    rw [if_neg hk, h2]
    have : manyB m 0 2 = false := by unfold manyB; simp
    rw [this]
    rfl
  have hs : sizeI it.v = 33 := by unfold sizeI; rw [hd]; rfl
  have hw : waysF m it = [0] := by unfold waysF fitW; rw [h1]; rfl
  have hg : goF m it r = (stM { takeM m 33 with s := r } 0, [(0, stD { takeM m 33 with s := r } 0 it.v)]) := by
    unfold goF
    rw [hw, hs]
    rfl
  refine ⟨hw, hs, ?_, ?_, ?_, ?_⟩
  · rw [hg]; exact stM_s _ _
  · rw [hg]; rfl
  · rw [hg]; exact hk
  · rw [hg]; rfl
theorem awk_flush {m : Ms} (h : Awk 3 m) : (flushM m).2.length = 2 ∧ (flushM m).1.s.length = 1 := by
  have hl := h.len
  match hs : m.s, hl with
  | [a, b, c], _ =>
    have ia := h.its a (by rw [hs]; simp)
    have ib := h.its b (by rw [hs]; simp)
    have ic := h.its c (by rw [hs]; simp)
    obtain ⟨a1, a2, a3, a4, a5, a6⟩ := go_one [b, c] h.key ia.1 ia.2
    obtain ⟨b1, b2, b3, b4, b5, b6⟩ := go_one [c] a5 ib.1 ib.2
    obtain ⟨c1, c2, _, _, _, _⟩ := go_one [] b5 ic.1 ic.2
    have hm := h.held
    unfold flushM
    rw [hs, flushL, a1, a2, if_pos (by simp; omega), flushL, b1, b2, if_pos (by rw [a4]; simp; omega), flushL, c1, c2, if_neg (by rw [b4, a4]; simp; omega)]
    refine ⟨?_, ?_⟩
    · simp only [List.length_append, a6, b6, List.length_nil]
    · show (goF (goF m a [b, c]).1 b [c]).1.s.length = 1
      rw [b3]
      rfl
set_option maxRecDepth 100000 in
set_option maxHeartbeats 6400000 in
theorem awake_m (w : World) : Calls Try.prog 5 #[] w fun e w' => e = .returned (.bool true) ∧ Kept [] w w' := by
  have HNW := hx (new_m 7 10 66 9 w (by omega) (by omega) (by omega))
  go_enter Try.func5, Try.ntmps5
  go_wp2_with (go_at_call 6; refine HNW.out.mono ?_; rintro e w1 ⟨s, b, q, rfl, hr, hk, hs, hb, hq⟩; have R1 := hx hr; have K1 := hx hk; have F1 := hx (And.intro hs (And.intro hb hq)); clear hr hk hs hb hq)
  go_loopw [3] (fun s3 wr => ∃ (i : Nat) (m : Ms) (v : Value), s3 = .int .i64 (i : Int) ∧ i ≤ 3 ∧ Hx (Awk i m) ∧ Hx (Sr wr s b q v m) ∧ Hx (Kept [] w wr) ∧ Hx (∀ g, g ∈ own s b q v → w.heap.size ≤ g)) (fun s3 _ => 3 - (intOf s3).toNat)
  case atStart => exact ⟨0, ms0 7 10 66 9, _, rfl, by omega, hx ⟨ms0_ok 7 10 66 9 (by omega) (by omega) (by omega) (by omega), by simp [ms0], rfl, rfl, rfl, fun x hx => by simp [ms0] at hx⟩, R1, K1, hx (fun g hg => by
    simp only [own, Value.ownBlock, List.mem_cons, Option.toList_none, List.not_mem_nil, or_false] at hg
    have := F1.out
    rcases hg with rfl | rfl | rfl <;> omega)⟩
  case round =>
    obtain ⟨i, m, v, rfl, hi, HA, HR, HK, HF⟩ := hrel
    by_cases hlt : i < 3
    · have hl : (i : Int) < 3 := by omega
      have HLT := hx hlt
      have hc : chk (pushD m kd0) = 0 := by
        unfold chk
        rw [if_neg (by simp [pushD, kd0]), if_neg (by
          have : formB (pushD m kd0) = true := by
            unfold formB
            apply decide_eq_true
            simp [formP, pushD, kd0, Qd.dg0]
          rw [this]
          simp [pushD])]
      have HC := hx hc
      have HPU := hx (push_m s b q v m i 0 2 kd0 none 0 0 wr HR.out HA.out.ok (by omega) ⟨rfl, Nat.le_refl _, by unfold maxLen; omega, fun _ => rfl, fun j hj => by simp [kd0, Qd.dg0] at hj⟩)
      clear hc hi
      go_wp2_with (first
        | (refine wpList_built rfl 34 _ rfl _ [(0, .int .i64 7)] (by simp only [List.map_toArray, List.map_cons, List.map_nil]; rfl) builtK ?_)
        | (go_at_call 7; refine HPU.out.mono ?_; rintro e w2 ⟨rfl, v2, m2, hr2, hk2, hv2, hm2⟩; have R2 := hx hr2; have K2 := hx hk2; have V2 := hx hv2; have M2 := hx hm2; clear hr2 hk2 hv2 hm2))
      have hm2 := M2.out
      rw [if_pos HC.out] at hm2
      obtain ⟨x, hx1, hx2⟩ := hm2
      go_roundw
      case rel =>
        refine ⟨i + 1, m2, v2, by push_cast; rfl, by have := HLT.out; omega, hx ?_, R2, hx (HK.out.trans K2.out (fun _ h => h) (fun g hg => .inr (HF.out g hg))), hx (fun g hg => ?_)⟩
        · rw [hx2]
          exact awk_push HA.out HLT.out HC.out hx1
        · simp only [own, List.mem_cons, Option.mem_toList] at hg
          have hf := HF.out g
          simp only [own, List.mem_cons, Option.mem_toList] at hf
          rcases hg with h | h | h | h
          · exact hf (.inl h)
          · exact hf (.inr (.inl h))
          · exact hf (.inr (.inr (.inl h)))
          · rcases V2.out with e | ⟨g2, e, hs⟩
            · rw [e] at h; exact hf (.inr (.inr (.inr h)))
            · rw [e] at h
              simp only [Option.some.injEq] at h
              have := HK.out.size
              omega
      case measure =>
        simp only [intOf]
        have := HLT.out
        omega
    · obtain rfl : i = 3 := by omega
      have HFL := hx (flush_m s b q v m (3 : Nat) 0 wr HR.out HA.out.ok (by omega) (by omega))
      obtain ⟨hf2, hf1⟩ := awk_flush HA.out
      obtain ⟨FM, hFM⟩ : ∃ FM, flushM m = FM := ⟨_, rfl⟩
      rw [hFM] at HFL hf1 hf2
      have HF1 := hx hf1
      have HF2 := hx hf2
      clear hFM hf1 hf2 hi hlt
      go_wp2_with (first
        | (go_at_call 8; refine HFL.out.mono ?_; rintro e w3 ⟨u, v3, rfl, ho, hr, hk, _, _⟩; obtain ⟨au, cu, hu⟩ := Qd.own_slice ho; rw [HF2.out] at hu; subst hu; have R3 := hx hr; have K3 := hx hk; clear ho hr hk)
        | (go_at_call 13; refine (waiting_m s b q v3 _ _ R3.out).mono ?_; rintro e w4 ⟨rfl, rfl⟩; rw [HF1.out]))
      go_ret
      exact ⟨rfl, HK.out.trans K3.out (fun _ h => h) (fun g hg => .inr (HF.out g hg))⟩
end Go.Proofs.Ytgdofgckjkmhjaa.Mp
