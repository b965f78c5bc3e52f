/- The sender's Tick. Printed by k/gen_mpk.py. -/
import Derived.Test.YtgdofgckjkmhjaaMpW
namespace Go.Proofs.Ytgdofgckjkmhjaa.Mp
open Go Go.RowKit
open Qd (dvl dv0 dvl_one infoDg step_of take_by)
def keepD (m : Ms) : Qd.Dv := ⟨{ Qd.dg0 with kind := 7, sess := m.sess }, none, 0⟩
theorem builtKeep (m : Ms) : Try.prog.built 34 [(0, .int .i64 7), (1, .int .u32 (m.sess : Int))] = some (dvl (keepD m)).toArray := by kernel_rfl
/-- So many bytes go. -/
def takeM (m : Ms) (n : Int) : Ms := { m with held := m.held - n, spent := Mp.hold (m.spent + n), full := m.full }
def tick0 (m : Ms) : Ms := { m with now := (m.now + 1) % 4294967296, held := heldT m.rt m.burst m.held, spent := m.spent, full := fullT m.rt m.burst m.held m.full }
/-- A way's tick. -/
def tick1 (m : Ms) (i : Nat) : Ms × List (Nat × Qd.Dv) :=
  if (tickP (m.way i)).2 = true ∧ 33 ≤ m.held then (stM (takeM (m.setW i (tickP (m.way i)).1) 33) i, [(i, stD (takeM (m.setW i (tickP (m.way i)).1) 33) i (keepD m))]) else (m.setW i (tickP (m.way i)).1, [])
def accM (m : Ms) : Nat → Ms × List (Nat × Qd.Dv)
  | 0 => (tick0 m, [])
  | i + 1 => ((tick1 (accM m i).1 i).1, (accM m i).2 ++ (tick1 (accM m i).1 i).2)
def tickM (m : Ms) : Ms × List (Nat × Qd.Dv) := accM m 2
theorem Ok.setW {m : Ms} {k t u : Int} (o : Ok m k t) (htu : t ≤ u) (i : Nat) (p : Pa) (hp : PaOk p k u) : Ok (m.setW i p) k u := by
  unfold Ms.setW
  split
  · exact ⟨hp, o.p1.mono (Int.le_refl _) htu, o.rt, o.burst, o.held, o.spent, o.full, o.room, o.turns, o.len, o.sess, o.now, o.drop, ⟨o.hold.1, by have := o.hold.2; show m.hold ≤ u; omega⟩, o.its⟩
  · exact ⟨o.p0.mono (Int.le_refl _) htu, hp, o.rt, o.burst, o.held, o.spent, o.full, o.room, o.turns, o.len, o.sess, o.now, o.drop, ⟨o.hold.1, by have := o.hold.2; show m.hold ≤ u; omega⟩, o.its⟩
theorem Ok.take {m : Ms} {k t : Int} (o : Ok m k t) (n : Int) (h0 : 0 ≤ n) (hn : n ≤ m.held) : Ok (takeM m n) k t :=
  ⟨o.p0, o.p1, o.rt, o.burst, ⟨by show 0 ≤ m.held - n; omega, by have := o.held.2; show m.held - n ≤ m.burst; omega⟩, hold_bd _, o.full, o.room, o.turns, o.len, o.sess, o.now, o.drop, o.hold, o.its⟩
theorem way_set {m : Ms} {i : Nat} {p : Pa} (_hi : i < 2) : (m.setW i p).way i = p := by
  unfold Ms.setW Ms.way
  by_cases h : i = 0
  · rw [if_pos h, if_pos h]
  · rw [if_neg h, if_neg h]
theorem Ok.stamp {m : Ms} {k t : Int} (o : Ok m k t) (i : Nat) : Ok (stM m i) k t := o.setW (Int.le_refl _) i _ (next_ok _ k t (o.way i))
theorem tick0_ok {m : Ms} {k t : Int} (o : Ok m k t) : Ok (tick0 m) k t :=
  ⟨o.p0, o.p1, o.rt, o.burst, by
    have h1 := o.held
    have h2 := o.rt
    show 0 ≤ heldT m.rt m.burst m.held ∧ heldT m.rt m.burst m.held ≤ m.burst
    unfold heldT
    omega, o.spent, hold_bd _, o.room, o.turns, o.len, o.sess, Nat.mod_lt _ (by omega), o.drop, o.hold, o.its⟩
theorem tick1_ok {m : Ms} {k t : Int} (o : Ok m k t) (i : Nat) (ht : 0 ≤ t) : Ok (tick1 m i).1 k (t + 1) := by
  have h1 : Ok (m.setW i (tickP (m.way i)).1) k (t + 1) := o.setW (by omega) i _ (tick_ok _ k t (o.way i))
  have hh : (m.setW i (tickP (m.way i)).1).held = m.held := (setW_same m i _).2.2.1
  unfold tick1
  split
  · rename_i h
    exact (h1.take 33 (by omega) (by rw [hh]; exact h.2)).stamp i
  · exact h1
theorem acc_ok {m : Ms} {k t : Int} (o : Ok m k t) (ht : 0 ≤ t) : ∀ i : Nat, Ok (accM m i).1 k (t + i)
  | 0 => by simpa [accM] using tick0_ok o
  | i + 1 => by
    have h := tick1_ok (acc_ok o ht i) i (by omega)
    rw [show t + ((i + 1 : Nat) : Int) = t + (i : Int) + 1 by push_cast; omega]
    exact h
theorem setW_sess (m : Ms) (i : Nat) (p : Pa) : (m.setW i p).sess = m.sess := by unfold Ms.setW; split <;> rfl
theorem tick1_none {m : Ms} {i : Nat} (h : ¬ ((tickP (m.way i)).2 = true ∧ 33 ≤ m.held)) : tick1 m i = (m.setW i (tickP (m.way i)).1, []) := by unfold tick1; rw [if_neg h]
theorem tick1_some {m : Ms} {i : Nat} (h : (tickP (m.way i)).2 = true ∧ 33 ≤ m.held) : tick1 m i = (stM (takeM (m.setW i (tickP (m.way i)).1) 33) i, [(i, stD (takeM (m.setW i (tickP (m.way i)).1) 33) i (keepD m))]) := by unfold tick1; rw [if_pos h]
theorem acc_len (m : Ms) : ∀ i, (accM m i).2.length ≤ i
  | 0 => Nat.le_refl _
  | i + 1 => by
    have h := acc_len m i
    show ((accM m i).2 ++ (tick1 (accM m i).1 i).2).length ≤ i + 1
    rw [List.length_append]
    unfold tick1
    split <;> simp <;> omega
theorem stM_s (m : Ms) (i : Nat) : (stM m i).s = m.s := (setW_same m i _).2.2.2.2.2.2.2
theorem tick1_s (m : Ms) (i : Nat) : (tick1 m i).1.s = m.s := by
  unfold tick1
  split
  · rw [stM_s]; exact (setW_same m i _).2.2.2.2.2.2.2
  · exact (setW_same m i _).2.2.2.2.2.2.2
theorem acc_s (m : Ms) : ∀ i, (accM m i).1.s = m.s
  | 0 => rfl
  | i + 1 => by
    show (tick1 (accM m i).1 i).1.s = m.s
    rw [tick1_s, acc_s m i]
/-- A row of the call's own grows. -/
theorem Sr.row {w0 w w' : World} {s b q n : Nat} {v u : Value} {m : Ms} {T : TypeId} {xs : List Value} {size : Nat} (r : Sr w s b q v m) (ho : w.ownsRow w0.heap.size T size u n xs) (hg : w.grownBy w' u.ownBlock) (h1 : ∀ g, g ∈ own s b q v → g < w0.heap.size) (h2 : ∀ x, x ∈ m.s → ∀ g o, x.v.p = some (⟨g, o, none⟩ : Addr) → x.v.d.data ≠ [] → g < w0.heap.size) : Sr w' s b q v m := by
  have hk : Kept u.ownBlock.toList w w' := (Kept.refl _ _).grown hg (fun k e => .inl (by simp [e]))
  refine r.but hk (fun g hm ho2 => ?_) (fun x hx g o hp hd hm => ?_)
  · have := h1 g ho2
    have := (ho.lt g (by simpa using hm)).1
    omega
  · have := h2 x hx g o hp hd
    have := (ho.lt g (by simpa using hm)).1
    omega
/-- What a tick tells. -/
def TickP (w : World) (s b q : Nat) (v : Value) (r : Ms × List (Nat × Qd.Dv)) (e : Ending) (w' : World) : Prop :=
  ∃ u, e = .returned u ∧ w'.ownsRow w.heap.size 38 12 u r.2.length (outC r.2) ∧ Sr w' s b q v r.1 ∧ Kept [s, b] w w'
set_option linter.unusedSimpArgs false in
set_option maxRecDepth 100000 in
set_option maxHeartbeats 12800000 in
theorem tick_m (s b q : Nat) (v : Value) (m : Ms) (k t : Int) (w : World) (r : Sr w s b q v m) (o : Ok m k t) (ht0 : 0 ≤ t) (ht : t ≤ 900000) :
    Calls Try.prog 9 #[.pointer (some ⟨s, 0, none⟩)] w (TickP w s b q v (tickM m)) := by
  have HR := hx r
  have HOK := hx o
  have HN := hx r.ne
  have hsl := r.own_lt
  have HSL := hx hsl
  have cn := r.hs.cell (i := 33) (v := .int .u32 m.now) rfl
  have ff := r.hs.free
  have hnw := o.now
  clear r o hsl
  go_enter Try.func9, Try.ntmps9
  go_upto_region 2 with fail
  generalize hw1 : World.setCell w _ _ = w1
  have HS1 := hx (show Blk w1 s (sdc { m with now := (m.now + 1) % 4294967296 } b q) 64 by
    rw [← hw1]
    refine (show ∀ x, x = (((m.now + 1) % 4294967296 : Nat) : Int) → Blk (w.setCell ⟨s, 33, none⟩ (.int .u32 x)) s (sdc { m with now := (m.now + 1) % 4294967296 } b q) 64 from fun x hx => by subst hx; exact HR.out.hs.set 33 _) _ ?_
    first | rfl | (push_cast; rfl) | (push_cast; omega) | (rw [IntKind.wrap_u32]; push_cast; omega))
  have K1 := hx (show Kept [s] w w1 by rw [← hw1]; exact (Kept.refl _ _).setCell (.inl (by simp)) _)
  clear hw1 cn ff
  have R1 := hx (HR.out.cells (m' := { m with now := (m.now + 1) % 4294967296 }) K1.out HS1.out ⟨rfl, rfl, rfl, rfl, rfl, rfl, rfl, rfl⟩)
  have cb := R1.out.hs.cell (i := 30) (v := .pointer (some ⟨b, 0, none⟩)) rfl
  have HBT := hx (btick_any b m.rt m.burst m.held m.spent m.full w1 R1.out.hb HOK.out.rt HOK.out.burst HOK.out.held HOK.out.full)
  go_upto_region 3 with (go_at_call 23; refine HBT.out.mono ?_; rintro e w2 ⟨rfl, hb2, hk2⟩; have R2 := hx (R1.out.bucket _ _ _ hk2 hb2); have K2 := hx (show Kept [s, b] w w2 from (K1.out.mono (cs := [s, b]) (fun x h => .inl (by simp at h; simp [h]))).trans hk2 (fun _ h => h) (fun x h => .inl (by simp at h; simp [h]))); clear hb2 hk2 cb)
  clear HBT R1 HS1 K1 hnw
  have R20 := hx (show Sr w2 s b q v (accM m 0).1 from R2.out)
  clear R2
  go_wp2_with fail
  go_loopw [18, 3] (fun s18 s3 wr => ∃ i : Nat, s18 = .int .i64 (i : Int) ∧ i ≤ 2 ∧ Hx (wr.ownsRow w.heap.size 38 12 s3 (accM m i).2.length (outC (accM m i).2)) ∧ Hx (Sr wr s b q v (accM m i).1) ∧ Hx (Kept [s, b] w wr)) (fun s18 _ _ => 2 - (intOf s18).toNat)
  case atStart => exact ⟨0, rfl, by omega, hx (World.ownsRow_nil _ _ _ _), R20, K2⟩
  case round =>
    obtain ⟨i, rfl, hi, HROW, HRR, HKK⟩ := hrel
    by_cases hlt : i < 2
    · have hl : (i : Int) < 2 := by omega
      have OKI := hx (acc_ok HOK.out ht0 i)
      have HLT := hx hlt
      have HLN := hx (acc_len m i)
      obtain ⟨M, hM⟩ : ∃ M, (accM m i).1 = M := ⟨_, rfl⟩
      obtain ⟨L, hL⟩ : ∃ L, (accM m i).2 = L := ⟨_, rfl⟩
      have HNX := hx (show (accM m (i + 1)).1 = (tick1 M i).1 ∧ (accM m (i + 1)).2 = L ++ (tick1 M i).2 by rw [← hM, ← hL]; exact ⟨rfl, rfl⟩)
      rw [hM] at OKI HRR
      rw [hL] at HROW HLN
      have HMM := hx (show M.s = m.s by rw [← hM]; exact acc_s m i)
      clear hM hL hi
      have HW := OKI.out.way i
      have HTK := hx (tick_any s (i * 15) (sdc M b q) 64 (M.way i) wr HRR.out.hs (part_way M b q HLT.out) HW.quiet.1 (by have := HW.quiet.2; have := HLT.out; omega) HW.gap.1 HW.gap.2 HW.probe.1 HW.probe.2)
      obtain ⟨P, hP⟩ : ∃ P, (tickP (M.way i)).1 = P := ⟨_, rfl⟩
      rw [hP] at HTK
      have HT0 := hx (@tick1_none M i)
      have HT1 := hx (@tick1_some M i)
      rw [hP] at HT0 HT1
      have OKN := hx (OKI.out.setW (u := t + i + 1) (by omega) i P (by rw [← hP]; exact tick_ok _ k _ (OKI.out.way i)))
      have HSM := hx (setW_same M i P)
      clear hP HW
      cases hb : (tickP (M.way i)).2 with
      | false =>
        have HE := hx (HT0.out (by rw [hb]; simp))
        rw [hb] at HTK
        clear hb HT0 HT1
        go_wp2_with (go_at_call 24; refine HTK.out.mono ?_; rintro e w3 ⟨rfl, hb3, hk3⟩; have R3 := hx (HRR.out.way HLT.out P hk3 hb3); have K3 := hx hk3; clear hb3 hk3)
        go_roundw
        case rel =>
          refine ⟨i + 1, by push_cast; rfl, by have := HLT.out; omega, ?_, ?_, hx (HKK.out.trans K3.out (fun _ h => h) (fun x h => .inl (by simp at h; simp [h])))⟩
          · rw [HNX.out.2, HE.out, List.append_nil]
            exact hx (Qd.own_kept3 HROW.out (fun g cs hv hg => K3.out.block g (Array.getElem?_eq_some_iff.1 hg).1 (by have h1 := (HROW.out.lt g hv).1; have h2 := HSL.out s (by simp [own]); simp; omega)))
          · rw [HNX.out.1, HE.out]
            exact R3
        case measure =>
          simp only [intOf]
          have := HLT.out
          omega
      | true =>
        rw [hb] at HTK
        go_upto_region 8 with (go_at_call 24; refine HTK.out.mono ?_; rintro e wt ⟨rfl, hb3, hk3⟩; have RT := hx (HRR.out.way HLT.out P hk3 hb3); have KT := hx hk3; clear hb3 hk3)
        have cs : wt.cell? ⟨s, 32, none⟩ = some (.int .u32 (M.sess : Int)) := by
          have h := RT.out.hs.cell (i := 32) (v := .int .u32 ((M.setW i P).sess : Int)) rfl
          rw [setW_sess] at h
          exact h
        obtain ⟨kd, hkd⟩ : ∃ kd, keepD M = kd := ⟨_, rfl⟩
        have HBK := hx (builtKeep M)
        rw [hkd] at HBK HT1
        have HKD := hx (show kd.d.data.length = 0 by rw [← hkd]; rfl)
        clear hkd
        go_upto_region 9 with (first
          | (refine wpList_built rfl 34 _ rfl _ [(0, .int .i64 7), (1, .int .u32 (M.sess : Int))] (by simp only [List.map_toArray, List.map_cons, List.map_nil]; rfl) HBK.out ?_)
          | (refine store_blk rfl 34 (.tmp 5) (.tmp 31) rfl wt.heap.size rfl 34 _ (dvl kd) rfl (Blk.new wt (dvl dv0) 34) rfl infoDg (dvl_one _) ?_; intro w3 hb5 hk5; have B3 := hx hb5; have KW := hx (((Kept.refl [] wt).alloc _).trans hk5 (ds := []) (fun _ h => h) (fun x h => by simp at h; subst h; exact .inr (Nat.le_refl _))); clear hb5 hk5))
        have R3 := hx (RT.out.kept KW.out)
        have K3 := hx (show Kept [s] wr w3 from KT.out.trans0 KW.out)
        obtain ⟨g5, hg5⟩ : ∃ g5, wt.heap.size = g5 := ⟨_, rfl⟩
        have hrt := HKK.out.size
        have hrt2 := KT.out.size
        rw [hg5] at B3
        rw [hg5]
        have HG5 := hx (show w.heap.size ≤ g5 by omega)
        have HSB := hx (show s < w.heap.size ∧ b < w.heap.size from ⟨HSL.out s (by simp [own]), HSL.out b (by simp [own])⟩)
        have HZ := hx (fun W => show Calls Try.prog 12 #[.agg (dvl kd).toArray] W (fun e w' => e = .returned (.int .i64 33) ∧ Kept [] W w') from by
          have h := size_any kd W (by rw [HKD.out]; omega)
          rw [HKD.out] at h
          exact h)
        have HSK := hx (fun (W : World) (hk : Kept [b] w3 W) => show (fun w3 => w3.cell? ⟨s, 30, none⟩ = some (.pointer (some ⟨b, 0, none⟩)) ∧ w3.rangeAt g5 0 (dvl kd)) W from ⟨(hk.blk R3.out.hs (by have := HN.out.sb; simp; exact this)).cell (i := 30) rfl, (hk.blk B3.out (by have := HSB.out.2; have := HG5.out; simp; omega)).range⟩)
        have hhd := HSM.out.2.2.1
        have HKR := hx (fun (W : World) (hk : Kept [s, b] wr W) => show W.ownsRow w.heap.size 38 12 _ L.length (outC L) from Qd.own_kept3 HROW.out (fun g cs hv hg => hk.block g (Array.getElem?_eq_some_iff.1 hg).1 (by have h1 := (HROW.out.lt g hv).1; have h2 := HSB.out; simp; omega)))
        clear hg5 hrt hrt2 cs HTK HBK KW RT KT
        by_cases h33 : 33 ≤ M.held
        · have HE := hx (HT1.out ⟨hb, h33⟩)
          have HT := hx (fun (W : World) (hk : Kept [] w3 W) => btake_yes b _ _ _ _ _ 33 W ((R3.out.kept hk).hb) (by omega) (by rw [hhd]; exact h33) (by have h1 := OKN.out.held.2; have h2 := OKN.out.burst.2; omega) OKN.out.spent)
          have hnx : ((takeM (M.setW i P) 33).way i).next < 4294967296 := (OKN.out.way i).next
          have HNXT := hx hnx
          have HMS := hx (show (takeM (M.setW i P) 33).s = m.s by show (M.setW i P).s = m.s; rw [HSM.out.2.2.2.2.2.2.2]; exact HMM.out)
          have HSTM := hx (stM_s (takeM (M.setW i P) 33) i)
          clear hb HT0 HT1 hhd h33 hnx
          refine wp_region_held_drew (S := (fun w3 => w3.cell? ⟨s, 30, none⟩ = some (.pointer (some ⟨b, 0, none⟩)) ∧ w3.rangeAt g5 0 (dvl kd))) (by kernel_rfl) (HSK.out _ (Kept.drew (Kept.refl [b] w3))) (fun hHeld => ?_)
          refine take_by 0 32 (v := ?_) rfl rfl (by kernel_rfl) (by kernel_rfl) (by kernel_rfl) (fun _ _ _ h => h) (Or.inl ⟨by rfl, ?_⟩) (by assumption) ?_
          rotate_left
          · (intro w hSw; (try dsimp only at hSw); go_simp; try with_reducible rfl)
          try simp only [List.setIfInBounds_toArray, List.set_cons_zero, List.set_cons_succ]
          refine take_by 1 33 (v := ?_) rfl rfl (by kernel_rfl) (by kernel_rfl) (by kernel_rfl) (fun _ _ _ h => h) (Or.inl ⟨by rfl, ?_⟩) (by assumption) ?_
          rotate_left
          · (intro w hSw; (try dsimp only at hSw); go_simp; try with_reducible rfl)
          try simp only [List.setIfInBounds_toArray, List.set_cons_zero, List.set_cons_succ]
          refine take_by 2 34 (v := ?_) rfl rfl (by kernel_rfl) (by kernel_rfl) (by kernel_rfl) (fun _ _ _ h => h) (Or.inl ⟨by rfl, ?_⟩) (by assumption) ?_
          rotate_left
          · (intro w hSw; (try dsimp only at hSw); go_simp; try with_reducible rfl)
          try simp only [List.setIfInBounds_toArray, List.set_cons_zero, List.set_cons_succ]
          refine take_by 3 35 (v := ?_) rfl rfl (by kernel_rfl) (by kernel_rfl) (by kernel_rfl) (fun _ _ _ h => h) (Or.inl ⟨by rfl, ?_⟩) (by assumption) ?_
          rotate_left
          · (intro w hSw; (try dsimp only at hSw); go_simp; try with_reducible rfl)
          try simp only [List.setIfInBounds_toArray, List.set_cons_zero, List.set_cons_succ]
          refine take_by 4 36 (v := .agg (dvl kd).toArray) rfl rfl (by kernel_rfl) (by kernel_rfl) (by kernel_rfl) (fun _ _ _ h => h) (yieldsIf_load_mid (by rfl) 34 (.tmp 5) rfl g5 (0) rfl (dvl kd) _ (fun _ hS => hS.2) Try.underlying34 rfl (by kernel_rfl)) (by assumption) ?_
          try simp only [List.setIfInBounds_toArray, List.set_cons_zero, List.set_cons_succ]
          refine wpAnyH_ready (rs := [5]) (by kernel_rfl) (by simp) ?_
          refine AllReadyH.cons rfl (fun K hK => ?_) AllReadyH.nil
          go_simp
          (go_at_call 12; refine (HZ.out _).mono ?_; rintro e w4 ⟨rfl, hk4⟩; have K4 := hx (show Kept [] w3 w4 from (Kept.drew (Kept.refl [] w3)).trans0 hk4); clear hk4)
          refine hK.out _ _ (HSK.out _ (K4.out.mono (by simp))) (fun hHeld => ?_)
          clear hK K
          try simp only [Act.put, List.setIfInBounds_toArray, List.set_cons_zero, List.set_cons_succ]
          refine wpAnyH_ready (rs := [6]) (by kernel_rfl) (by simp) ?_
          refine AllReadyH.cons rfl (fun K hK => ?_) AllReadyH.nil
          go_simp
          (go_at_call 20; refine (HT.out _ K4.out).mono ?_; rintro e w5 ⟨rfl, hb5, hk5⟩; have R5 := hx ((R3.out.kept K4.out).bucket _ _ _ hk5 hb5); have K5 := hx (show Kept [b] w3 w5 from (K4.out.mono (by simp)).trans hk5 (fun _ h => h) (fun _ h => .inl h)); clear hb5 hk5)
          refine hK.out _ _ (HSK.out _ K5.out) (fun hHeld => ?_)
          clear hK K
          try simp only [Act.put, List.setIfInBounds_toArray, List.set_cons_zero, List.set_cons_succ]
          refine wpAnyH_done (by kernel_rfl) ?_ _
          have R6 := hx (show Sr w5 s b q v (takeM (M.setW i P) 33) from R5.out)
          clear R5 HT HZ
          obtain ⟨M5, hM5⟩ : ∃ M5, takeM (M.setW i P) 33 = M5 := ⟨_, rfl⟩
          rw [hM5] at R6 HE HNXT HMS HSTM
          clear hM5
          have HST := hx (stamp_m s b q i v M5 kd w5 R6.out HLT.out HNXT.out)
          have B5 := hx ((K5.out.blk B3.out (by have := HSB.out.2; have := HG5.out; simp; omega)))
          have k5 : Kept [s, b] wr w5 := (K3.out.mono (cs := [s, b]) (fun x h => .inl (by simp at h; simp [h]))).trans K5.out (fun _ h => h) (fun x h => .inl (by simp at h; simp [h]))
          have KA := hx k5
          have HDT := hx (fun (x : Qd.It) (hx2 : x ∈ m.s) (g o : Nat) (hp : x.v.p = some (⟨g, o, none⟩ : Addr)) (hd : x.v.d.data ≠ []) => (HR.out.dat x hx2).lt hp hd)
          clear k5
          go_wp2_with (first
            | (refine load_blk rfl 34 (.tmp 5) rfl g5 rfl 34 _ _ B5.out Try.underlying34 rfl infoDg ?_)
            | (go_at_call 22; refine HST.out.mono ?_; rintro e w6 ⟨rfl, hr6, hk6⟩; have RS := hx hr6; have KS := hx (show Kept [s, b] wr w6 from KA.out.trans hk6 (fun _ h => h) (fun x h => .inl (by simp at h; simp [h]))); clear hr6 hk6)
            | (refine wpList_bs1 rfl 35 38 (.tmp 43) rfl 12 96 _ infoSn3 (snt (i : Int) (stD M5 i kd)) rfl rfl (by omega) (by omega) Try.underlying35 ?_; intro w7 hb7 hk7; have B7 := hx hb7; have K7 := hx (show Kept [s, b] wr w7 from KS.out.trans0 hk7); have R7 := hx (RS.out.kept hk7); clear hb7 hk7)
            | (refine out_app rfl (.tmp 39) (.tmp 44) rfl w.heap.size _ L rfl (HKR.out _ K7.out) w6.heap.size (i, stD M5 i kd) rfl B7.out (by have := HLN.out; have := HLT.out; omega) (Nat.le_trans HKK.out.size K7.out.size) ?_; intro v8 w8 ho8 hg8; have HO8 := hx ho8; have K8 := hx (show Kept [s, b] w w8 from (HKK.out.trans1 K7.out).grown hg8 (fun g hg => .inr ((HKR.out _ K7.out).lt g hg).1)); have R8 := hx (R7.out.row (HKR.out _ K7.out) hg8 HSL.out (fun x hx2 => HDT.out x (by rw [← HMS.out, ← HSTM.out]; exact hx2))); clear ho8 hg8))
          go_roundw
          case rel =>
            refine ⟨i + 1, by push_cast; rfl, by have := HLT.out; omega, ?_, ?_, K8⟩
            · rw [HNX.out.2, HE.out]
              exact HO8
            · rw [HNX.out.1, HE.out]
              exact R8
          case measure =>
            simp only [intOf]
            have := HLT.out
            omega
        · have HE := hx (HT0.out (by rw [hb]; simp; omega))
          have HT := hx (fun (W : World) (hk : Kept [] w3 W) => btake_no b _ _ _ _ _ 33 W ((R3.out.kept hk).hb) (by rw [hhd]; omega))
          clear hb HT0 HT1 hhd h33
          refine wp_region_held_drew (S := (fun w3 => w3.cell? ⟨s, 30, none⟩ = some (.pointer (some ⟨b, 0, none⟩)) ∧ w3.rangeAt g5 0 (dvl kd))) (by kernel_rfl) (HSK.out _ (Kept.drew (Kept.refl [b] w3))) (fun hHeld => ?_)
          refine take_by 0 32 (v := ?_) rfl rfl (by kernel_rfl) (by kernel_rfl) (by kernel_rfl) (fun _ _ _ h => h) (Or.inl ⟨by rfl, ?_⟩) (by assumption) ?_
          rotate_left
          · (intro w hSw; (try dsimp only at hSw); go_simp; try with_reducible rfl)
          try simp only [List.setIfInBounds_toArray, List.set_cons_zero, List.set_cons_succ]
          refine take_by 1 33 (v := ?_) rfl rfl (by kernel_rfl) (by kernel_rfl) (by kernel_rfl) (fun _ _ _ h => h) (Or.inl ⟨by rfl, ?_⟩) (by assumption) ?_
          rotate_left
          · (intro w hSw; (try dsimp only at hSw); go_simp; try with_reducible rfl)
          try simp only [List.setIfInBounds_toArray, List.set_cons_zero, List.set_cons_succ]
          refine take_by 2 34 (v := ?_) rfl rfl (by kernel_rfl) (by kernel_rfl) (by kernel_rfl) (fun _ _ _ h => h) (Or.inl ⟨by rfl, ?_⟩) (by assumption) ?_
          rotate_left
          · (intro w hSw; (try dsimp only at hSw); go_simp; try with_reducible rfl)
          try simp only [List.setIfInBounds_toArray, List.set_cons_zero, List.set_cons_succ]
          refine take_by 3 35 (v := ?_) rfl rfl (by kernel_rfl) (by kernel_rfl) (by kernel_rfl) (fun _ _ _ h => h) (Or.inl ⟨by rfl, ?_⟩) (by assumption) ?_
          rotate_left
          · (intro w hSw; (try dsimp only at hSw); go_simp; try with_reducible rfl)
          try simp only [List.setIfInBounds_toArray, List.set_cons_zero, List.set_cons_succ]
          refine take_by 4 36 (v := .agg (dvl kd).toArray) rfl rfl (by kernel_rfl) (by kernel_rfl) (by kernel_rfl) (fun _ _ _ h => h) (yieldsIf_load_mid (by rfl) 34 (.tmp 5) rfl g5 (0) rfl (dvl kd) _ (fun _ hS => hS.2) Try.underlying34 rfl (by kernel_rfl)) (by assumption) ?_
          try simp only [List.setIfInBounds_toArray, List.set_cons_zero, List.set_cons_succ]
          refine wpAnyH_ready (rs := [5]) (by kernel_rfl) (by simp) ?_
          refine AllReadyH.cons rfl (fun K hK => ?_) AllReadyH.nil
          go_simp
          (go_at_call 12; refine (HZ.out _).mono ?_; rintro e w4 ⟨rfl, hk4⟩; have K4 := hx (show Kept [] w3 w4 from (Kept.drew (Kept.refl [] w3)).trans0 hk4); clear hk4)
          refine hK.out _ _ (HSK.out _ (K4.out.mono (by simp))) (fun hHeld => ?_)
          clear hK K
          try simp only [Act.put, List.setIfInBounds_toArray, List.set_cons_zero, List.set_cons_succ]
          refine wpAnyH_ready (rs := [6]) (by kernel_rfl) (by simp) ?_
          refine AllReadyH.cons rfl (fun K hK => ?_) AllReadyH.nil
          go_simp
          (go_at_call 20; refine (HT.out _ K4.out).mono ?_; rintro e w5 ⟨rfl, rfl⟩; have R5 := hx (R3.out.kept K4.out); have K5 := hx K4.out)
          refine hK.out _ _ (HSK.out _ (K5.out.mono (by simp))) (fun hHeld => ?_)
          clear hK K
          try simp only [Act.put, List.setIfInBounds_toArray, List.set_cons_zero, List.set_cons_succ]
          refine wpAnyH_done (by kernel_rfl) ?_ _
          go_wp2_with fail
          go_roundw
          case rel =>
            have kk : Kept [s, b] wr w4 := (K3.out.mono (cs := [s, b]) (fun x h => .inl (by simp at h; simp [h]))).trans0 K5.out
            refine ⟨i + 1, by push_cast; rfl, by have := HLT.out; omega, ?_, ?_, hx (HKK.out.trans kk (fun _ h => h) (fun x h => .inl h))⟩
            · rw [HNX.out.2, HE.out, List.append_nil]
              exact hx (HKR.out _ kk)
            · rw [HNX.out.1, HE.out]
              exact R5
          case measure =>
            simp only [intOf]
            have := HLT.out
            omega
    · obtain rfl : i = 2 := by omega
      clear hi hlt
      go_wp2_with fail
      go_ret
      exact ⟨_, rfl, HROW.out, HRR.out, HKK.out⟩
end Go.Proofs.Ytgdofgckjkmhjaa.Mp
