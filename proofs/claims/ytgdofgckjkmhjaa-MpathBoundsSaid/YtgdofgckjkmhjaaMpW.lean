/- What a push leaves, in plain terms. The sender's Push. Printed by k/gen_mpp.py. Rows of datagrams that went; the size of one. -/
import Derived.Test.YtgdofgckjkmhjaaMpN
namespace Go.Proofs.Ytgdofgckjkmhjaa.Mp
open Go Go.RowKit
open Qd (dvl dv0 dvl_one infoDg step_of)
/-- What waits when one more has come. -/
def pushS (room : Int) (s : List Qd.It) (x : Qd.It) : List Qd.It := if room < ((Qd.insS s x).length : Int) then (Qd.insS s x).dropLast else Qd.insS s x
theorem pushS_mem {room : Int} {s : List Qd.It} {x y : Qd.It} (h : y ∈ pushS room s x) : y = x ∨ y ∈ s := by
  have h1 : y ∈ Qd.insS s x := by
    unfold pushS at h
    split at h
    · exact (List.dropLast_sublist _).subset h
    · exact h
  have h2 := (Qd.ins_perm s x).mem_iff.1 h1
  simpa using h2
def goneB (room : Int) (s : List Qd.It) : Bool := decide (room < ((s.length + 1 : Nat) : Int))
theorem pushS_len {room : Int} {s : List Qd.It} {x : Qd.It} (h : (s.length : Int) ≤ room) : ((pushS room s x).length : Int) ≤ room := by
  unfold pushS
  have hl := Qd.ins_len s x
  split
  · rw [List.length_dropLast]; omega
  · omega
/-- The queue's Push, by what waits. -/
def QPush (W : World) (q : Nat) (v : Value) (room turns : Int) (s : List Qd.It) (it : Qd.It) (e : Ending) (w' : World) : Prop :=
  ∃ y v2, e = .returned (.tuple #[.agg (dvl y).toArray, .bool (goneB room s)]) ∧ (∃ h2, Qd.Qs w' q v2 room turns h2 ∧ Qd.Rp h2 turns (pushS room s it)) ∧ Kept (q :: v.ownBlock.toList) W w' ∧ (v2.ownBlock = v.ownBlock ∨ ∃ g, v2.ownBlock = some g ∧ W.heap.size ≤ g)
theorem qpush (q : Nat) (v : Value) (room turns rank : Int) (x : Qd.Dv) (h s : List Qd.It) (W : World) (qs : Qd.Qs W q v room turns h) (rp : Qd.Rp h turns s) (hb : s.length ≤ 100000) (ht0 : 0 ≤ turns) (ht1 : turns ≤ 1000000) :
    Calls Try.prog 16 #[.pointer (some ⟨q, 0, none⟩), .int .i64 rank, .agg (dvl x).toArray] W (QPush W q v room (turns + 1) s ⟨rank, turns + 1, x⟩) := by
  have hl := rp.len
  refine (Qd.push_any q v room turns rank x h W qs (by omega) ht0 ht1).mono ?_
  rintro e w' ⟨v2, hc, hk, hv⟩
  have ha := rp.add rank x
  have hal := Qd.add_len h ⟨rank, turns + 1, x⟩
  have hil := Qd.ins_len s ⟨rank, turns + 1, x⟩
  have hg : goneB room s = decide (room < ((Qd.addL h ⟨rank, turns + 1, x⟩).length : Int)) := by unfold goneB; rw [hal, hl]
  by_cases hr : room < ((Qd.addL h ⟨rank, turns + 1, x⟩).length : Int)
  · rw [if_pos hr] at hc
    obtain ⟨he, hq⟩ := hc
    obtain ⟨hs, _, hd⟩ := ha.drop (by omega)
    refine ⟨_, v2, by rw [he, hg, decide_eq_true hr], ⟨_, hq, ?_⟩, hk, hv⟩
    unfold pushS
    rw [if_pos (by omega)]
    exact hd
  · rw [if_neg hr] at hc
    obtain ⟨he, hq⟩ := hc
    refine ⟨_, v2, by rw [he, hg, decide_eq_false hr], ⟨_, hq, ?_⟩, hk, hv⟩
    unfold pushS
    rw [if_neg (by omega)]
    exact ha
/-- The sender when one has come. -/
def pushM (m : Ms) (rank : Int) (x : Qd.Dv) : Ms := { m with turns := m.turns + 1, s := pushS m.room m.s ⟨rank, m.turns + 1, x⟩ }
theorem Sr.pushed {w w' : World} {s b q : Nat} {v v2 : Value} {m : Ms} {rank : Int} {x : Qd.Dv} (r : Sr w s b q v m) (hx : Bd w (own s b q v) x)
    (hq : ∃ h2, Qd.Qs w' q v2 m.room (m.turns + 1) h2 ∧ Qd.Rp h2 (m.turns + 1) (pushS m.room m.s ⟨rank, m.turns + 1, x⟩)) (hk : Kept (q :: v.ownBlock.toList) w w') (hv : v2.ownBlock = v.ownBlock ∨ ∃ g, v2.ownBlock = some g ∧ w.heap.size ≤ g) :
    Sr w' s b q v2 (pushM m rank x) ∧ ∀ y, y ∈ (pushM m rank x).s → ∀ g o, y.v.p = some (⟨g, o, none⟩ : Addr) → y.v.d.data ≠ [] → g < w.heap.size := by
  have n := r.ne
  have hsub : ∀ g, g ∈ q :: v.ownBlock.toList → g ∈ own s b q v ∨ w.heap.size ≤ g := fun g hg => .inl (by simp only [own, List.mem_cons] at *; exact .inr (.inr hg))
  have hbad : ∀ g, g ∈ own s b q v2 → g ∈ own s b q v ∨ w.heap.size ≤ g := fun g hg => by
    simp only [own, List.mem_cons, Option.mem_toList] at hg ⊢
    rcases hg with h | h | h | h
    · exact .inl (.inl h)
    · exact .inl (.inr (.inl h))
    · exact .inl (.inr (.inr (.inl h)))
    · rcases hv with e | ⟨g', e, hs⟩
      · rw [e] at h; exact .inl (.inr (.inr (.inr h)))
      · rw [e] at h
        simp only [Option.some.injEq] at h
        exact .inr (by omega)
  have hd : ∀ y, y ∈ (pushM m rank x).s → Bd w (own s b q v) y.v := fun y hy => by
    rcases pushS_mem hy with rfl | h
    · exact hx
    · exact r.dat y h
  refine ⟨⟨hk.blk r.hs (fun h => ?_), hk.blk r.hb (fun h => ?_), hq, fun y hy => (hd y hy).next hk hsub hbad⟩, fun y hy g o hp hdd => (hd y hy).lt hp hdd⟩
  · simp only [List.mem_cons, Option.mem_toList] at h
    rcases h with h | h
    · exact n.sq h
    · exact n.vs h
  · simp only [List.mem_cons, Option.mem_toList] at h
    rcases h with h | h
    · exact n.bq h
    · exact n.vb h
theorem chk_form {d : Dg} (h : chk d = 0) : (1 ≤ d.kind ∧ d.kind ≤ 8) ∧ (0 ≤ d.path ∧ d.path < 2) ∧ formP d := by
  unfold chk at h
  split at h
  · omega
  · split at h
    · omega
    · rename_i h1 h2
      refine ⟨by omega, by omega, ?_⟩
      have h3 : formB d = true := by
        cases hf : formB d with
        | true => rfl
        | false => exact absurd (.inr (.inr hf)) h2
      exact of_decide_eq_true h3
theorem chk_len {d : Dg} (h : chk d = 0) : d.data.length ≤ 1200 := by
  obtain ⟨_, _, h3⟩ := chk_form h
  unfold formP shardP missP at h3
  split at h3
  · omega
  · obtain ⟨_, h4⟩ := h3
    (repeat' split at h4) <;> omega
theorem step_allocD {w : World} {ops : Array Oper} {o : Oper} {a : Act} {K : Act → World → Prop} {Q : Exit → Act → World → Prop} {E : Prop} (hgd : o.guard = none) (ho : o.op = .alloc 34)
    (hK : ∀ W', Blk W' w.heap.size (dvl dv0) 34 → Kept [] w W' → K (a.put o.dst (.pointer (some ⟨w.heap.size, 0, none⟩))) W') : if Region.wanted o (yielded ops a.tmps) = true then o.wp Try.prog a w K Q else E := by
  refine step_of hgd ?_
  have h := hK _ (Blk.new w (dvl dv0) _) ((Kept.refl _ _).alloc _)
  unfold Oper.wp execOp
  rw [ho]
  go_simp
  exact h
end Go.Proofs.Ytgdofgckjkmhjaa.Mp
namespace Go.Proofs.Ytgdofgckjkmhjaa.Mp
open Go Go.RowKit
open Qd (dvl dv0 dvl_one infoDg step_of take_by)
/-- A datagram that is to go: its session, no way yet. -/
def pushD (m : Ms) (d : Dg) : Dg := { d with sess := m.sess, path := 0 }
/-- What a push leaves. -/
def PushQ (w : World) (s b q : Nat) (v : Value) (m : Ms) (rank : Int) (d : Dg) (e : Ending) (w' : World) : Prop :=
  e = .returned (.int .i64 (chk (pushD m d))) ∧ ∃ v2 m2, Sr w' s b q v2 m2 ∧ Kept (own s b q v) w w' ∧ (v2.ownBlock = v.ownBlock ∨ ∃ g, v2.ownBlock = some g ∧ w.heap.size ≤ g) ∧
    (if chk (pushD m d) = 0 then ∃ x, x.d = pushD m d ∧ m2 = { pushM m rank x with drop := if goneB m.room m.s then m.drop + 1 else m.drop } else v2 = v ∧ m2 = m)
set_option linter.unusedSimpArgs false in
set_option maxRecDepth 100000 in
set_option maxHeartbeats 12800000 in
theorem push_m (s b q : Nat) (v : Value) (m : Ms) (k t rank : Int) (d : Dg) (p : Option Addr) (n c : Nat) (w : World) (r : Sr w s b q v m) (o : Ok m k t) (hk : k ≤ 1000000) (hd : Bts w p n c d.data) :
    Calls Try.prog 7 #[.pointer (some ⟨s, 0, none⟩), .int .i64 rank, .agg (dgl d p c).toArray] w (PushQ w s b q v m rank d) := by
  obtain rfl := hd.hlen
  have HR := hx r
  have HD := hx hd
  have hsl := r.hs.lt
  have HO := hx (show m.s.length ≤ 256 ∧ 0 ≤ m.turns ∧ m.turns ≤ 1000000 ∧ m.sess < 4294967296 ∧ 0 ≤ m.drop ∧ m.drop ≤ 1000000 from ⟨by have := o.len; have := o.room; omega, o.turns.1, by have := o.turns; omega, o.sess, o.drop.1, by have := o.drop; omega⟩)
  clear r o hd
  go_enter Try.func7, Try.ntmps7
  go_upto_region 1 with fail
  generalize hw1 : World.alloc w _ = w1
  have hk1 : Kept [] w w1 := by rw [← hw1]; exact (Kept.refl _ _).alloc _
  have HB5 := hx (show Blk w1 w.heap.size (dgl d p c) 34 by rw [← hw1]; exact Blk.new w (dgl d p c) _)
  clear hw1
  have R1 := hx (HR.out.kept hk1)
  have K1 := hx hk1
  clear hk1
  have cs := R1.out.hs.cell (i := 32) (v := .int .u32 m.sess) rfl
  have c1 := HB5.out.cell (i := 1) (v := .int .u32 d.sess) rfl
  have c3 := HB5.out.cell (i := 3) (v := .int .i64 d.path) rfl
  have ff := HB5.out.free
  go_upto_region 2 with fail
  generalize hw2 : World.setCell (World.setCell w1 _ _) _ _ = w2
  have HB2 := hx (show Blk w2 w.heap.size (dgl (pushD m d) p c) 34 by rw [← hw2]; exact (HB5.out.set 1 _).set 3 _)
  have K2 := hx (show Kept [] w w2 by rw [← hw2]; exact (K1.out.setCell (.inr (Nat.le_refl _)) _).setCell (.inr (Nat.le_refl _)) _)
  clear hw2 cs c1 c3 ff HB5 K1 R1
  have HCK := hx (fun W (hk : Kept [] w W) => check_any (pushD m d) p d.data.length c W (HD.out.kept hk))
  by_cases hc : chk (pushD m d) = 0
  · rw [hc] at HCK
    have HC := hx hc
    clear hc
    go_upto_region 5 with (first
      | (refine load_blk rfl 34 (.tmp 5) rfl w.heap.size rfl 34 _ _ HB2.out Try.underlying34 rfl infoDg ?_)
      | (go_at_call 11; refine (HCK.out _ K2.out).mono ?_; rintro e w4 ⟨rfl, hk4⟩; have K4 := hx (K2.out.trans0 hk4); have HB4 := hx (hk4.blk HB2.out (by simp)); clear hk4))
    have HDL := hx (show 0 + d.data.length ≤ 140737488355328 by have h1 : d.data.length ≤ 1200 := chk_len (d := pushD m d) HC.out; omega)
    have KE := hx ((Kept.refl [] w4).alloc (.cells #[] 5))
    have c10 := (KE.out.blk HB4.out (by simp)).cell (i := 10) (v := .slice p d.data.length c) rfl
    go_upto_region 6 with (refine wpList_app8 rfl (.tmp 21) (.tmp 23) rfl w4.heap.size (.slice (some ⟨w4.heap.size, 0, none⟩) 0 0) 0 [] rfl (own_empty rfl (Nat.le_refl _)) p d.data.length c d.data rfl ((HD.out.kept K4.out).kept KE.out) HDL.out (Nat.le_of_lt (by simp)) ?_; intro v6 w6 ho6 hg6; rw [List.nil_append, Nat.zero_add] at ho6; obtain ⟨a2, cap2, hv6, hbts0⟩ := Bts.own ho6; subst hv6; have HBT := hx hbts0; have KG := hx (KE.out.grown hg6 (fun k hk => by simp [Value.ownBlock] at hk; subst hk; exact .inr (Nat.le_refl _))); have HB6 := hx (KG.out.blk HB4.out (by simp)); have z6 := HB6.out.cell (i := 10) (v := .slice p d.data.length c) rfl; have f6 := HB6.out.free 10; have HO6 := hx ho6; clear ho6 hg6 c10 hbts0)
    have hbts := HBT.out
    generalize hw3 : World.setCell w6 _ _ = w3
    obtain ⟨x2, hx2⟩ : ∃ x2 : Qd.Dv, x2 = ⟨pushD m d, a2, cap2⟩ := ⟨_, rfl⟩
    have HX := hx hx2
    have HB3 := hx (show Blk w3 w.heap.size (dvl x2) 34 by rw [← hw3, hx2]; exact HB6.out.set 10 _)
    have K3 := hx (show Kept [] w w3 by rw [← hw3]; exact (K4.out.trans0 KG.out).setCell (.inr (Nat.le_refl _)) _)
    have hsz4 := K4.out.size
    have hbl := HB4.out.lt
    have hbd : Bd w3 (own s b q v) x2 := by
      have hk6 : Kept [w.heap.size] w6 w3 := by rw [← hw3]; exact (Kept.refl _ _).setCell (.inl (by simp)) _
      have hne : ∀ g o, a2 = some (⟨g, o, none⟩ : Addr) → w4.heap.size ≤ g := fun g o hg => by
        have h := (HO6.out.lt g (by subst hg; rfl)).1
        exact h
      rw [hx2]
      refine ⟨Bts.but hbts hk6 (fun g o hg _ hm => ?_), fun g o hg _ hm => ?_⟩
      · have := hne g o hg
        simp only [List.mem_cons, List.not_mem_nil, or_false] at hm
        omega
      · have := hne g o hg
        have := HR.out.own_lt g hm
        omega
    have HBX := hx hbd
    have R3 := hx (HR.out.kept K3.out)
    obtain ⟨hh, hqs, hrp⟩ := R3.out.hq
    have HP := hx (fun (W : World) (hk : Kept [] w3 W) => qpush q v m.room m.turns rank x2 hh m.s W (qs_kept hqs hk (by simp) (by simp)) hrp (by have := HO.out.1; omega) HO.out.2.1 HO.out.2.2.1)
    have HSK := hx (fun (W : World) (hk : Kept (q :: v.ownBlock.toList) w3 W) => show (fun w3 => w3.cell? ⟨s, 31, none⟩ = some (.pointer (some ⟨q, 0, none⟩)) ∧ w3.rangeAt w.heap.size 0 (dvl x2)) W from ⟨(hk.blk R3.out.hs (fun h => by
        have n := HR.out.ne
        simp only [List.mem_cons, Option.mem_toList] at h
        rcases h with h | h
        · exact n.sq h
        · exact n.vs h)).cell (i := 31) rfl, (hk.blk HB3.out (fun h => by
        have h2 := HR.out.own_lt w.heap.size (by simp only [own, List.mem_cons] at *; exact .inr (.inr h))
        omega)).range⟩)
    have HFX := hx (show x2.d = pushD m d by rw [hx2])
    clear hx2 HX hbd hqs hrp hbts HBT HO6 hw3 z6 f6 KG HB6 KE HB4 K4 hsz4 hbl HB2 K2 HCK HDL
    go_cut [9] (fun s9 wx => s9 = .bool (goneB m.room m.s) ∧ ∃ v2, Sr wx s b q v2 (pushM m rank x2) ∧ Kept (q :: v.ownBlock.toList) w3 wx ∧ (v2.ownBlock = v.ownBlock ∨ ∃ g, v2.ownBlock = some g ∧ w3.heap.size ≤ g))
    case first =>
      refine wp_region_held_drew (S := (fun w3 => w3.cell? ⟨s, 31, none⟩ = some (.pointer (some ⟨q, 0, none⟩)) ∧ w3.rangeAt w.heap.size 0 (dvl x2))) (by kernel_rfl) (HSK.out _ (Kept.drew (Kept.refl (q :: v.ownBlock.toList) w3))) (fun hHeld => ?_)
      refine take_by 0 27 (v := ?_) rfl rfl (by kernel_rfl) (by kernel_rfl) (by kernel_rfl) (fun _ _ _ h => h) (Or.inl ⟨by rfl, ?_⟩) (by assumption) ?_
      rotate_left
      · (intro w hSw; (try dsimp only at hSw); go_simp; try with_reducible rfl)
      try simp only [List.setIfInBounds_toArray, List.set_cons_zero, List.set_cons_succ]
      refine take_by 1 28 (v := ?_) rfl rfl (by kernel_rfl) (by kernel_rfl) (by kernel_rfl) (fun _ _ _ h => h) (Or.inl ⟨by rfl, ?_⟩) (by assumption) ?_
      rotate_left
      · (intro w hSw; (try dsimp only at hSw); go_simp; try with_reducible rfl)
      try simp only [List.setIfInBounds_toArray, List.set_cons_zero, List.set_cons_succ]
      refine take_by 2 29 (v := ?_) rfl rfl (by kernel_rfl) (by kernel_rfl) (by kernel_rfl) (fun _ _ _ h => h) (Or.inl ⟨by rfl, ?_⟩) (by assumption) ?_
      rotate_left
      · (intro w hSw; (try dsimp only at hSw); go_simp; try with_reducible rfl)
      try simp only [List.setIfInBounds_toArray, List.set_cons_zero, List.set_cons_succ]
      refine take_by 3 30 (v := ?_) rfl rfl (by kernel_rfl) (by kernel_rfl) (by kernel_rfl) (fun _ _ _ h => h) (Or.inl ⟨by rfl, ?_⟩) (by assumption) ?_
      rotate_left
      · (intro w hSw; (try dsimp only at hSw); go_simp; try with_reducible rfl)
      try simp only [List.setIfInBounds_toArray, List.set_cons_zero, List.set_cons_succ]
      refine take_by 4 31 (v := ?_) rfl rfl (by kernel_rfl) (by kernel_rfl) (by kernel_rfl) (fun _ _ _ h => h) (Or.inl ⟨by rfl, ?_⟩) (by assumption) ?_
      rotate_left
      · (intro w hSw; (try dsimp only at hSw); go_simp; try with_reducible rfl)
      try simp only [List.setIfInBounds_toArray, List.set_cons_zero, List.set_cons_succ]
      refine take_by 5 32 (v := .agg (dvl x2).toArray) rfl rfl (by kernel_rfl) (by kernel_rfl) (by kernel_rfl) (fun _ _ _ h => h) (yieldsIf_load_mid (by rfl) 34 (.tmp 5) rfl w.heap.size (0) rfl (dvl x2) _ (fun _ hS => hS.2) Try.underlying34 rfl (by kernel_rfl)) (by assumption) ?_
      try simp only [List.setIfInBounds_toArray, List.set_cons_zero, List.set_cons_succ]
      refine wpAnyH_ready (rs := [6, 10]) (by kernel_rfl) (by simp) ?_
      refine AllReadyH.cons rfl (fun K hK => ?_) (AllReadyH.cons rfl (fun K hK => ?_) AllReadyH.nil)
      · go_simp
        (go_at_call 16; refine (HP.out _ (Kept.drew (Kept.refl [] w3))).mono ?_; rintro e w4 ⟨y, v2, rfl, hm, hk4, hv4⟩; have KB4 := hx hk4; have K4 := hx (show Kept (q :: v.ownBlock.toList) w3 w4 from (Kept.drew (Kept.refl [] w3)).trans hk4 (by simp) (fun _ h => .inl h)); have M4 := hx hm; have V4 := hx hv4; clear hk4 hm hv4)
        refine hK.out _ _ (HSK.out _ K4.out) (fun _ => ?_)
        clear hK K
        try simp only [Act.put, List.getElem_toArray, List.getElem_cons_succ, List.getElem_cons_zero, List.setIfInBounds_toArray, List.set_cons_zero, List.set_cons_succ]
        refine take_by 7 26 (v := ?_) rfl rfl (by kernel_rfl) (by kernel_rfl) (by kernel_rfl) (fun _ _ _ h => h) (Or.inl ⟨by rfl, ?_⟩) (by assumption) ?_
        rotate_left
        · (intro w hSw; (try dsimp only at hSw); go_simp; try with_reducible rfl)
        try simp only [List.setIfInBounds_toArray, List.set_cons_zero, List.set_cons_succ]
        refine take_by 8 34 (v := ?_) rfl rfl (by kernel_rfl) (by kernel_rfl) (by kernel_rfl) (fun _ _ _ h => h) (Or.inl ⟨by rfl, ?_⟩) (by assumption) ?_
        rotate_left
        · (intro w hSw; (try dsimp only at hSw); go_simp; try with_reducible rfl)
        try simp only [List.setIfInBounds_toArray, List.set_cons_zero, List.set_cons_succ]
        refine take_by 9 35 (v := ?_) rfl rfl (by kernel_rfl) (by kernel_rfl) (by kernel_rfl) (fun _ _ _ h => h) (Or.inl ⟨by rfl, ?_⟩) (by assumption) ?_
        rotate_left
        · (intro w hSw; (try dsimp only at hSw); go_simp; try with_reducible rfl)
        try simp only [List.setIfInBounds_toArray, List.set_cons_zero, List.set_cons_succ]
        refine wpAnyH_ready (rs := [10]) (by kernel_rfl) (by simp) ?_
        refine AllReadyH.cons rfl (fun K hK => ?_) AllReadyH.nil
        refine step_allocD rfl rfl ?_
        intro wa hba hka
        have BA := hx hba
        have KA2 := hx hka
        have KA := hx (show Kept (q :: v.ownBlock.toList) w3 wa from (K4.out).trans0 hka)
        clear hba hka
        refine hK.out _ _ (HSK.out _ KA.out) (fun _ => ?_)
        clear hK K
        try simp only [Act.put, List.getElem_toArray, List.getElem_cons_succ, List.getElem_cons_zero, List.setIfInBounds_toArray, List.set_cons_zero, List.set_cons_succ]
        refine wpAnyH_ready (rs := [11]) (by kernel_rfl) (by simp) ?_
        refine AllReadyH.cons rfl (fun K hK => ?_) AllReadyH.nil
        refine Qd.step_storeB rfl 34 (.tmp 8) (.tmp 34) rfl w4.heap.size rfl 34 (dvl dv0) (dvl y) rfl BA.out rfl infoDg (dvl_one _) ?_
        intro w5 hb5 hk5
        have P4 := Sr.pushed R3.out HBX.out M4.out (K4.out) V4.out
        have kf := KA2.out.trans hk5 (ds := []) (fun _ h => h) (fun g hg => by simp at hg; subst hg; exact .inr (Nat.le_refl _))
        have R5 := hx (P4.1.kept kf)
        have K5 := hx (K4.out.trans0 kf)
        refine hK.out _ _ (HSK.out _ K5.out) (fun _ => ?_)
        clear hK K hb5 hk5
        try simp only [Act.put, List.getElem_toArray, List.getElem_cons_succ, List.getElem_cons_zero, List.setIfInBounds_toArray, List.set_cons_zero, List.set_cons_succ]
        refine take_by 12 9 (v := ?_) rfl rfl (by kernel_rfl) (by kernel_rfl) (by kernel_rfl) (fun _ _ _ h => h) (Or.inl ⟨by rfl, ?_⟩) (by assumption) ?_
        rotate_left
        · (intro w hSw; (try dsimp only at hSw); go_simp; try with_reducible rfl)
        try simp only [List.setIfInBounds_toArray, List.set_cons_zero, List.set_cons_succ]
        refine wpAnyH_done (by kernel_rfl) ?_ _
        go_wp2_with fail
        go_meet
        exact ⟨rfl, v2, R5.out, K5.out, V4.out⟩
      · refine step_allocD rfl rfl ?_
        intro wa hba hka
        have BA := hx hba
        have KA2 := hx hka
        have KA := hx (show Kept [] w3 wa from (Kept.drew (Kept.refl [] w3)).trans0 hka)
        clear hba hka
        refine hK.out _ _ (HSK.out _ (KA.out.mono (by simp))) (fun _ => ?_)
        clear hK K
        try simp only [Act.put, List.getElem_toArray, List.getElem_cons_succ, List.getElem_cons_zero, List.setIfInBounds_toArray, List.set_cons_zero, List.set_cons_succ]
        refine wpAnyH_ready (rs := [6]) (by kernel_rfl) (by simp) ?_
        refine AllReadyH.cons rfl (fun K hK => ?_) AllReadyH.nil
        go_simp
        (go_at_call 16; refine (HP.out _ KA.out).mono ?_; rintro e w4 ⟨y, v2, rfl, hm, hk4, hv4⟩; have KB4 := hx hk4; have K4 := hx (show Kept (q :: v.ownBlock.toList) w3 w4 from KA.out.trans hk4 (by simp) (fun _ h => .inl h)); have M4 := hx hm; have V4 := hx hv4; clear hk4 hm hv4)
        refine hK.out _ _ (HSK.out _ K4.out) (fun _ => ?_)
        clear hK K
        try simp only [Act.put, List.getElem_toArray, List.getElem_cons_succ, List.getElem_cons_zero, List.setIfInBounds_toArray, List.set_cons_zero, List.set_cons_succ]
        refine take_by 7 26 (v := ?_) rfl rfl (by kernel_rfl) (by kernel_rfl) (by kernel_rfl) (fun _ _ _ h => h) (Or.inl ⟨by rfl, ?_⟩) (by assumption) ?_
        rotate_left
        · (intro w hSw; (try dsimp only at hSw); go_simp; try with_reducible rfl)
        try simp only [List.setIfInBounds_toArray, List.set_cons_zero, List.set_cons_succ]
        refine take_by 8 34 (v := ?_) rfl rfl (by kernel_rfl) (by kernel_rfl) (by kernel_rfl) (fun _ _ _ h => h) (Or.inl ⟨by rfl, ?_⟩) (by assumption) ?_
        rotate_left
        · (intro w hSw; (try dsimp only at hSw); go_simp; try with_reducible rfl)
        try simp only [List.setIfInBounds_toArray, List.set_cons_zero, List.set_cons_succ]
        refine take_by 9 35 (v := ?_) rfl rfl (by kernel_rfl) (by kernel_rfl) (by kernel_rfl) (fun _ _ _ h => h) (Or.inl ⟨by rfl, ?_⟩) (by assumption) ?_
        rotate_left
        · (intro w hSw; (try dsimp only at hSw); go_simp; try with_reducible rfl)
        try simp only [List.setIfInBounds_toArray, List.set_cons_zero, List.set_cons_succ]
        refine wpAnyH_ready (rs := [11]) (by kernel_rfl) (by simp) ?_
        refine AllReadyH.cons rfl (fun K hK => ?_) AllReadyH.nil
        refine Qd.step_storeB rfl 34 (.tmp 8) (.tmp 34) rfl w3.drew.heap.size rfl 34 (dvl dv0) (dvl y) rfl (KB4.out.blk BA.out (fun h => by have := R3.out.own_lt w3.heap.size (by simp only [own, List.mem_cons] at *; exact .inr (.inr h)); omega)) rfl infoDg (dvl_one _) ?_
        intro w5 hb5 hk5
        have P4 := Sr.pushed (R3.out.kept KA.out) (HBX.out.next KA.out (by simp) (fun g hg => .inl hg)) M4.out KB4.out V4.out
        have R5 := hx (P4.1.but hk5 (fun g hg ho => by simp only [List.mem_cons, List.not_mem_nil, or_false] at hg; have hq := R3.out.own_lt g; have hz := BA.out.lt; have hw : w3.drew.heap.size = w3.heap.size := rfl; simp only [own, List.mem_cons, Option.mem_toList] at ho hq; rcases ho with h | h | h | h; (have := hq (.inl h); omega); (have := hq (.inr (.inl h)); omega); (have := hq (.inr (.inr (.inl h))); omega); (rcases V4.out with e | ⟨g2, e, hs⟩; (rw [e] at h; have := hq (.inr (.inr (.inr h))); omega); (rw [e] at h; simp only [Option.some.injEq] at h; omega))) (fun y hy g o hp hd hg => by simp only [List.mem_cons, List.not_mem_nil, or_false] at hg; rcases pushS_mem hy with rfl | h; (have := HBX.out.lt hp hd; have hw : w3.drew.heap.size = w3.heap.size := rfl; omega); (have := (R3.out.dat y h).lt hp hd; have hw : w3.drew.heap.size = w3.heap.size := rfl; omega)))
        have K5 := hx (K4.out.trans hk5 (fun _ h => h) (fun g hg => by simp at hg; subst hg; exact .inr (Nat.le_refl _)))
        have V4 := hx (show v2.ownBlock = v.ownBlock ∨ ∃ g, v2.ownBlock = some g ∧ w3.heap.size ≤ g from V4.out.imp id (fun ⟨g, e, h⟩ => ⟨g, e, Nat.le_trans KA.out.size h⟩))
        refine hK.out _ _ (HSK.out _ K5.out) (fun _ => ?_)
        clear hK K hb5 hk5
        try simp only [Act.put, List.getElem_toArray, List.getElem_cons_succ, List.getElem_cons_zero, List.setIfInBounds_toArray, List.set_cons_zero, List.set_cons_succ]
        refine take_by 12 9 (v := ?_) rfl rfl (by kernel_rfl) (by kernel_rfl) (by kernel_rfl) (fun _ _ _ h => h) (Or.inl ⟨by rfl, ?_⟩) (by assumption) ?_
        rotate_left
        · (intro w hSw; (try dsimp only at hSw); go_simp; try with_reducible rfl)
        try simp only [List.setIfInBounds_toArray, List.set_cons_zero, List.set_cons_succ]
        refine wpAnyH_done (by kernel_rfl) ?_ _
        go_wp2_with fail
        go_meet
        exact ⟨rfl, v2, R5.out, K5.out, V4.out⟩
    case rest =>
      obtain ⟨rfl, v2, hR, hK, hV⟩ := hcut
      have RC := hx hR
      have KC := hx (K3.out.trans hK (ds := own s b q v) (by simp) (fun g hg => .inl (by simp only [own, List.mem_cons] at *; exact .inr (.inr hg))))
      have VC := hx (show v2.ownBlock = v.ownBlock ∨ ∃ g, v2.ownBlock = some g ∧ w.heap.size ≤ g from hV.imp id (fun ⟨g, e, h⟩ => ⟨g, e, Nat.le_trans K3.out.size h⟩))
      clear hR hK hV HP HSK HBX R3 HB3
      cases hg : goneB m.room m.s with
      | false =>
        have HG := hx hg
        clear hg
        go_wp2_with fail
        go_ret
        refine ⟨by rw [HC.out]; rfl, v2, pushM m rank x2, RC.out, KC.out, VC.out, ?_⟩
        rw [if_pos HC.out]
        exact ⟨x2, HFX.out, by rw [HG.out]; rfl⟩
      | true =>
        have HG := hx hg
        have cd := RC.out.hs.cell (i := 34) (v := .int .i64 m.drop) rfl
        have fd := RC.out.hs.free
        have d0 := HO.out.2.2.2.2.1
        have d1 := HO.out.2.2.2.2.2
        clear hg
        go_upto_region 9 with fail
        generalize hw8 : World.setCell wc _ _ = w8
        have HS8 := hx (show Blk w8 s (sdc { pushM m rank x2 with drop := m.drop + 1 } b q) 64 by rw [← hw8]; exact RC.out.hs.set 34 _)
        have K8 := hx (show Kept [s] wc w8 by rw [← hw8]; exact (Kept.refl _ _).setCell (.inl (by simp)) _)
        clear hw8 cd fd
        go_wp2_with fail
        go_ret
        refine ⟨by rw [HC.out]; rfl, v2, { pushM m rank x2 with drop := m.drop + 1 }, RC.out.cells K8.out HS8.out ⟨rfl, rfl, rfl, rfl, rfl, rfl, rfl, rfl⟩, KC.out.trans K8.out (fun _ h => h) (fun g hg => .inl (by simp at hg; subst hg; simp [own])), VC.out, ?_⟩
        rw [if_pos HC.out]
        exact ⟨x2, HFX.out, by rw [HG.out]; rfl⟩
  · have bc : (chk (pushD m d) != 0) = true := by simp [bne, hc]
    have HC := hx hc
    clear hc
    go_wp2_with (first
      | (refine load_blk rfl 34 (.tmp 5) rfl w.heap.size rfl 34 _ _ HB2.out Try.underlying34 rfl infoDg ?_)
      | (go_at_call 11; refine (HCK.out _ K2.out).mono ?_; rintro e w4 ⟨rfl, hk4⟩; have K4 := hx (K2.out.trans0 hk4); clear hk4))
    go_ret
    exact ⟨rfl, v, m, HR.out.kept K4.out, K4.out.mono (by simp), .inl rfl, by rw [if_neg HC.out]; exact ⟨rfl, rfl⟩⟩
end Go.Proofs.Ytgdofgckjkmhjaa.Mp
namespace Go.Proofs.Ytgdofgckjkmhjaa.Mp
open Go Go.RowKit
open Qd (dvl dv0 dvl_one infoDg step_of take_by)
set_option maxHeartbeats 800000 in
theorem size_any (x : Qd.Dv) (w : World) (hl : x.d.data.length ≤ 1000000) :
    Calls Try.prog 12 #[.agg (dvl x).toArray] w fun e w' => e = .returned (.int .i64 (33 + (x.d.data.length : Int))) ∧ Kept [] w w' := by
  have hb := Blk.new w (dvl x) 34
  have c := hb.cell (i := 10) (v := .slice x.p x.d.data.length x.c) rfl
  clear hb
  go_enter Try.func12, Try.ntmps12
  go_wp2
  go_ret
  exact ⟨ret_int (by omega), (Kept.refl _ _).alloc _⟩
/-- The cells of what went. -/
def outC (l : List (Nat × Qd.Dv)) : List Value := l.flatMap fun y => snt (y.1 : Int) y.2
theorem outC_app (a b : List (Nat × Qd.Dv)) : outC (a ++ b) = outC a ++ outC b := by simp [outC]
theorem infoSn3 : (Try.prog.info? 38).map (fun i => (i.zero, i.size, i.bytes)) = some (some (.agg (snt 0 dv0).toArray), 12, 96) := by kernel_rfl
theorem wpList_bs1 {P : Program} {w : World} {ops : Array Oper} {rest : List Oper} {o : Oper} {a : Act} {Q : Exit → Act → World → Prop} (hg : o.guard = none) (t e : TypeId) (x : Operand) (ho : o.op = .buildSlice t 1 #[(0, x)])
    (n bytes : Nat) (z : Value) (hinfo : (P.info? e).map (fun i => (i.zero, i.size, i.bytes)) = some (some z, n, bytes)) (vs : List Value) (hx : a.eval x = .agg vs.toArray) (hv : vs.length = n) (h0 : 0 < n) (hn : n ≤ 16777216)
    (hu : P.underlying t = some (.slice e)) (h : ∀ W', Blk W' w.heap.size vs e → Kept [] w W' → wpList P ops Q rest (a.put o.dst (.slice (some ⟨w.heap.size, 0, none⟩) 1 1)) W') : wpList P ops Q (o :: rest) a w := by
  obtain ⟨i, hi, hz0, hz1, hz2⟩ := info_parts hinfo
  refine wpList_buildSlice hg t e 1 _ ho vs.toArray i z hu hi hz0 (by omega) (by omega) ?_ (h _ (Blk.new w _ _) ((Kept.refl _ _).alloc _))
  have e1 : (#[((0 : Nat), x)].map fun (i, x) => (i, a.eval x)).toList = [(0, .agg vs.toArray)] := by simp [hx]
  rw [e1, hz1]
  exact Qd.fill_one n vs _ hv (by simp)
/-- One more has gone. -/
theorem out_app {w : World} {ops : Array Oper} {rest : List Oper} {o : Oper} {a : Act} {Q : Exit → Act → World → Prop} (hgd : o.guard = none) (s x : Operand)
    (ho : o.op = .call { callee := .builtin .append, args := #[s, x], argTypes := #[35, 35] })
    (base : Nat) (v : Value) (l : List (Nat × Qd.Dv)) (hs : a.eval s = v) (hown : w.ownsRow base 38 12 v l.length (outC l))
    (g : Nat) (y : Nat × Qd.Dv) (hx : a.eval x = .slice (some ⟨g, 0, none⟩) 1 1) (hb : Blk w g (snt (y.1 : Int) y.2) 38) (hroom : l.length ≤ 1000000) (hbase : base ≤ w.heap.size)
    (h : ∀ v' w', w'.ownsRow base 38 12 v' (l ++ [y]).length (outC (l ++ [y])) → w.grownBy w' v.ownBlock → wpList Try.prog ops Q rest (a.put o.dst v') w') : wpList Try.prog ops Q (o :: rest) a w := by
  refine wpList_app hgd s x 35 ho base 38 (.agg (snt 0 dv0).toArray) 12 96 infoSn3 Try.underlying35 rfl (by omega) v l.length (outC l) hs hown (some ⟨g, 0, none⟩) 1 1 (snt (y.1 : Int) y.2) hx rfl (by simp) (by omega) (newsP hb) (snt_one _ _) (by unfold maxLen; omega) (by omega) hbase ?_
  intro v' w' h1 h2
  refine h v' w' ?_ h2
  rw [List.length_append, outC_app]
  simpa [outC] using h1
end Go.Proofs.Ytgdofgckjkmhjaa.Mp
