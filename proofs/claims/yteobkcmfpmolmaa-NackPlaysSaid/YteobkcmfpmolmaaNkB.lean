/- nack: Wait. -/
import Derived.Test.YteobkcmfpmolmaaNkA
import Derived.Stop.RegionWithIn
namespace Go.Proofs.Yteobkcmfpmolmaa
open Go Go.RowKit Go.Shelf
theorem clamp_any (n lo hi : Int) (w : World) :
    Calls Try.prog 24 #[.int .i64 n, .int .i64 lo, .int .i64 hi] w fun e w' => e = .returned (.int .i64 (max lo (min n (max lo hi)))) ∧ w = w' := by
  go_enter Try.func24, Try.ntmps24
  go_wp2
  all_goals
    go_ret
    refine ⟨ret_int ?_, rfl⟩
    (repeat' split at *) <;> omega
/-- Some ticks, held. -/
def heldN (n : Int) : Int := min (max n 1) 4096
theorem clamp_held (n : Int) : max 1 (min n (max 1 4096)) = heldN n := by unfold heldN; omega
theorem held_any (n : Int) (w : World) :
    Calls Try.prog 24 #[.int .i64 n, .int .i64 1, .int .i64 4096] w fun e w' => e = .returned (.int .i64 (heldN n)) ∧ w = w' := by
  have h := clamp_any n 1 4096 w
  rw [clamp_held] at h
  exact h
theorem heldN_in (n : Int) : 1 ≤ heldN n ∧ heldN n ≤ 4096 := by unfold heldN; omega
variable {w w' : World} {p q mb n : Nat} {v v' : Value} {room now now' no no' asked full : Int} {h h' : List En} {f f' : Int → Int}
theorem Nk.fulled (s : Nk w p q mb n v room now no asked full h f) : Nk (w.setCell ⟨p, 3, none⟩ (.int .i64 (full + 1))) p q mb n v room now no asked (full + 1) h f := by
  have k : Kept [p] w (w.setCell ⟨p, 3, none⟩ (.int .i64 (full + 1))) := (Kept.refl [p] _).setCell (p := ⟨p, 3, none⟩) (.inl (by simp)) _
  exact ⟨s.hp.set 3 _, ⟨k.blk s.ts.hq (by simp [s.pq.symm]), own_ts s.ts.own k s.vp, s.ts.ne⟩, s.mp.kept k (by simp [s.pm.symm]), s.pq, s.pm, s.qm, s.vp, s.vm⟩
/-- What Wait leaves. -/
def NWaitP (w : World) (p q mb n : Nat) (v : Value) (room now no asked full k t : Int) (h : List En) (f : Int → Int) (e : Ending) (w' : World) : Prop :=
  e = .returned (.tuple #[]) ∧ ∃ v' no' full' h' n' f', KeptK w w' p q mb v v' ∧ Nk w' p q mb n' v' room now no' asked full' h' f' ∧ n' ≤ n + 1 ∧
    ((∃ i, keyAt k h = some i ∧ h' = h ∧ no' = no ∧ full' = full ∧ f' = f) ∨
     (keyAt k h = none ∧ room ≤ h.length ∧ h' = h ∧ no' = no ∧ full' = full + 1 ∧ f' = f) ∨
     (keyAt k h = none ∧ h.length < room ∧ h' = h ++ [⟨k, now + heldN t, no + 1⟩] ∧ no' = no + 1 ∧ full' = full ∧ f' = fun j => if j = k then 0 else f j))
set_option maxHeartbeats 1600000 in
theorem nwait_runs (k t : Int) (i : Nat) (w : World) (s : Nk w p q mb n v room now no asked full h f) (hb : h.length ≤ 1000000) (h0 : 0 ≤ now) (h1 : now ≤ 1099511627776) (hd : ∀ x, x ∈ h → now < x.due ∧ x.due ≤ 2199023255552) (hi : keyAt k h = some i) :
    Calls Try.prog 9 #[.pointer (some ⟨p, 0, none⟩), .int .u32 k, .int .i64 t] w (NWaitP w p q mb n v room now no asked full k t h f) := by
  have c0 := s.hp.cell (i := 0) rfl
  have HS := hx s
  have HI := hx hi
  have HL := hx (tleft_any q v room now no k h w s.ts hb h0 h1 hd)
  have e2 : leftV now k h = ((h.getD i en0).due - now, true) := by unfold leftV; rw [hi]
  rw [e2] at HL
  generalize hPP : NWaitP w p q mb n v room now no asked full k t h f = PP at *
  have HPP := hx hPP
  clear s hb h0 h1 hd hi hPP e2
  go_enter Try.func9, Try.ntmps9
  go_wp2_with (go_at_call 22; refine HL.out.mono ?_; rintro e w1 ⟨rfl, hk1⟩; have HK1 := hx hk1; clear hk1)
  refine bodyPost_ret (results_none rfl _ _ _) rfl ?_
  rw [← HPP.out]
  exact ⟨rfl, v, no, full, h, n, f, KeptK.of HK1.out (by simp), HS.out.kept HK1.out, by omega, .inl ⟨i, HI.out, rfl, rfl, rfl, rfl⟩⟩
set_option maxHeartbeats 3200000 in
theorem nwait_full (k t : Int) (w : World) (s : Nk w p q mb n v room now no asked full h f) (hb : h.length ≤ 1000000) (h0 : 0 ≤ now) (h1 : now ≤ 1099511627776) (hd : ∀ x, x ∈ h → now < x.due ∧ x.due ≤ 2199023255552) (hi : keyAt k h = none) (hr : room ≤ h.length) (hf0 : 0 ≤ full) (hf1 : full ≤ 1000000000) :
    Calls Try.prog 9 #[.pointer (some ⟨p, 0, none⟩), .int .u32 k, .int .i64 t] w (NWaitP w p q mb n v room now no asked full k t h f) := by
  have c0 := s.hp.cell (i := 0) rfl
  have HS := hx s
  have HI := hx (And.intro hi hr)
  have HL := hx (tleft_any q v room now no k h w s.ts hb h0 h1 hd)
  have e2 : leftV now k h = (0, false) := by unfold leftV; rw [hi]
  rw [e2] at HL
  have HC := hx (fun w => held_any t w)
  have HST := hx (fun w1 (hk : Kept [] w w1) => show Calls Try.prog 23 #[.pointer (some ⟨q, 0, none⟩), .int .u32 k, .int .i64 (heldN t)] w1 (fun e w' => e = .returned (.int .i64 2) ∧ ∃ v', KeptK w w' p q mb v v' ∧ Nk w' p q mb n v' room now no asked full h f) from
    (start_full q v room now no k (heldN t) h w1 (s.kept hk).ts (heldN_in t).1 (by have := (heldN_in t).2; omega) hb hi hr).mono (by
      rintro e w2 ⟨v', no', h', hkT, hT, hor⟩
      rcases hor with ⟨hx, _⟩ | ⟨_, _, _, _, rfl, rfl, rfl⟩ | ⟨_, _, _, hlt, _⟩ | ⟨_, _, i, hi2, _⟩
      · exfalso; have := heldN_in t; omega
      · exact ⟨rfl, v', (KeptK.of hk (by simp)).trans (KeptK.ofT hkT), (s.kept hk).turn hkT hT⟩
      · exfalso; omega
      · rw [hi] at hi2; cases hi2))
  have hw : IntKind.i64.wrap (full + 1) = full + 1 := by rw [IntKind.wrap_i64]; omega
  generalize hPP : NWaitP w p q mb n v room now no asked full k t h f = PP at *
  have HPP := hx hPP
  clear s hb h0 h1 hd hi hPP e2 hr hf0 hf1
  go_enter Try.func9, Try.ntmps9
  go_wp2_with (go_at_call 22; refine HL.out.mono ?_; rintro e w1 ⟨rfl, hk1⟩; have d0 := (HS.out.kept hk1).hp.cell (i := 0) rfl; have HK1 := hx hk1; clear hk1)
  go_region_with (first | (go_at_call 24; refine (HC.out _).mono ?_; rintro e w4 ⟨rfl, rfl⟩) | (go_at_call 23; refine (HST.out _ (by repeat (first | exact HK1.out | apply Kept.drew))).mono ?_; rintro e w4 ⟨rfl, v4, hk4, hs4⟩; have HK4 := hx hk4; have HS4 := hx hs4; clear hk4 hs4))
  all_goals
    have d3 := HS4.out.hp.cell (i := 3) rfl
    have df := HS4.out.hp.free
    go_wp2
    refine bodyPost_ret (results_none rfl _ _ _) rfl ?_
    rw [← HPP.out]
    refine ⟨rfl, v4, no, full + 1, h, n, f, HK4.out.trans (KeptK.of ((Kept.refl [p] _).setCell (p := ⟨p, 3, none⟩) (.inl (by simp)) _) (by simp)), HS4.out.fulled, by omega, .inr (.inl ⟨HI.out.1, HI.out.2, rfl, rfl, rfl, rfl⟩)⟩
set_option maxRecDepth 100000 in
set_option maxHeartbeats 3200000 in
theorem nwait_new (k t : Int) (w : World) (s : Nk w p q mb n v room now no asked full h f) (hb : h.length ≤ 1000000) (h0 : 0 ≤ now) (h1 : now ≤ 1099511627776) (hd : ∀ x, x ∈ h → now < x.due ∧ x.due ≤ 2199023255552) (hi : keyAt k h = none) (hr : h.length < room) (hn0 : 0 ≤ no) (hn1 : no ≤ 1000000000) (hnm : n < maxLen) (hkw : (Lit.int .u32 k).wf = true) :
    Calls Try.prog 9 #[.pointer (some ⟨p, 0, none⟩), .int .u32 k, .int .i64 t] w (NWaitP w p q mb n v room now no asked full k t h f) := by
  have c0 := s.hp.cell (i := 0) rfl
  have HS := hx s
  have HI := hx (And.intro hi hr)
  have HKW := hx (And.intro hnm hkw)
  have HL := hx (tleft_any q v room now no k h w s.ts hb h0 h1 hd)
  have e2 : leftV now k h = (0, false) := by unfold leftV; rw [hi]
  rw [e2] at HL
  have HC := hx (fun w => held_any t w)
  have HST := hx (fun w1 (hk : Kept [] w w1) => show Calls Try.prog 23 #[.pointer (some ⟨q, 0, none⟩), .int .u32 k, .int .i64 (heldN t)] w1 (fun e w' => e = .returned (.int .i64 0) ∧ ∃ v', KeptK w w' p q mb v v' ∧ Nk w' p q mb n v' room now (no + 1) asked full (h ++ [⟨k, now + heldN t, no + 1⟩]) f) from
    (tstart_any q v room now no k (heldN t) h w1 (s.kept hk).ts hb hn0 hn1 h0 h1).mono (by
      rintro e w2 ⟨v', no', h', hkT, hT, hor⟩
      rcases hor with ⟨hx, _⟩ | ⟨_, _, _, hge, _⟩ | ⟨_, _, _, hlt, rfl, rfl, rfl⟩ | ⟨_, _, i, hi2, _⟩
      · exfalso; have := heldN_in t; omega
      · exfalso; omega
      · exact ⟨rfl, v', (KeptK.of hk (by simp)).trans (KeptK.ofT hkT), (s.kept hk).turn hkT hT⟩
      · rw [hi] at hi2; cases hi2))
  generalize hPP : NWaitP w p q mb n v room now no asked full k t h f = PP at *
  have HPP := hx hPP
  clear s hb h0 h1 hd hi hPP e2 hr hn0 hn1 hnm hkw
  go_enter Try.func9, Try.ntmps9
  go_wp2_with (go_at_call 22; refine HL.out.mono ?_; rintro e w1 ⟨rfl, hk1⟩; have d0 := (HS.out.kept hk1).hp.cell (i := 0) rfl; have HK1 := hx hk1; clear hk1)
  go_region_with (first | (go_at_call 24; refine (HC.out _).mono ?_; rintro e w4 ⟨rfl, rfl⟩) | (go_at_call 23; refine (HST.out _ (by repeat (first | exact HK1.out | apply Kept.drew))).mono ?_; rintro e w4 ⟨rfl, v4, hk4, hs4⟩; have HK4 := hx hk4; have HS4 := hx hs4; clear hk4 hs4))
  all_goals
    have d1 := HS4.out.hp.cell (i := 1) rfl
    obtain ⟨w5, hput, hm5, hg5⟩ := HS4.out.mp.put (v := 0) HKW.out.1 HKW.out.2 (by decide)
    have HM5 := hx (HS4.out.mapped hm5 hg5)
    clear hm5 hg5
    go_wp2
    refine bodyPost_ret (results_none rfl _ _ _) rfl ?_
    rw [← HPP.out]
    exact ⟨rfl, v4, no + 1, full, _, n + 1, _, HK4.out.trans HM5.out.2, HM5.out.1, Nat.le_refl _, .inr (.inr ⟨HI.out.1, HI.out.2, rfl, rfl, rfl, rfl⟩)⟩
theorem nwait_any (k t : Int) (w : World) (s : Nk w p q mb n v room now no asked full h f) (hb : h.length ≤ 1000000) (h0 : 0 ≤ now) (h1 : now ≤ 1099511627776) (hd : ∀ x, x ∈ h → now < x.due ∧ x.due ≤ 2199023255552) (hn0 : 0 ≤ no) (hn1 : no ≤ 1000000000) (hf0 : 0 ≤ full) (hf1 : full ≤ 1000000000) (hnm : n < maxLen) (hkw : (Lit.int .u32 k).wf = true) :
    Calls Try.prog 9 #[.pointer (some ⟨p, 0, none⟩), .int .u32 k, .int .i64 t] w (NWaitP w p q mb n v room now no asked full k t h f) := by
  cases hi : keyAt k h with
  | some i => exact nwait_runs k t i w s hb h0 h1 hd hi
  | none =>
    by_cases hr : room ≤ (h.length : Int)
    · exact nwait_full k t w s hb h0 h1 hd hi hr hf0 hf1
    · exact nwait_new k t w s hb h0 h1 hd hi (by omega) hn0 hn1 hnm hkw
end Go.Proofs.Yteobkcmfpmolmaa
