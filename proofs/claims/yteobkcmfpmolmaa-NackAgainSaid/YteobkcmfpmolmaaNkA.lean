/- nack: its cells, New, Len, Asked, Full, Has, Stop. -/
import Derived.Test.YteobkcmfpmolmaaNkM
namespace Go.Proofs.Yteobkcmfpmolmaa
open Go Go.RowKit Go.Shelf
abbrev nackT : TypeId := 61
/-- The groups that are waited for. -/
structure Nk (w : World) (p q mb n : Nat) (v : Value) (room now no asked full : Int) (h : List En) (f : Int → Int) : Prop where
  hp : Blk w p [.pointer (some ⟨q, 0, none⟩), .map (some mb), .int .i64 asked, .int .i64 full] nackT
  ts : Ts w q v room now no h
  mp : Mp w mb n f
  pq : p ≠ q
  pm : p ≠ mb
  qm : q ≠ mb
  vp : v.ownBlock ≠ some p
  vm : v.ownBlock ≠ some mb
def KeptK (w w' : World) (p q mb : Nat) (v v' : Value) : Prop := Kept (p :: q :: mb :: v.ownBlock.toList) w w' ∧ (v'.ownBlock = v.ownBlock ∨ v'.ownBlock = none ∨ ∃ g, v'.ownBlock = some g ∧ w.heap.size ≤ g)
theorem KeptK.of {w w' : World} {p q mb : Nat} {v : Value} {bs : List Nat} (h : Kept bs w w') (hb : ∀ x, x ∈ bs → x = p ∨ x = q ∨ x = mb) : KeptK w w' p q mb v v :=
  ⟨h.mono (fun x hx => by have := hb x hx; simp only [List.mem_cons]; rcases this with rfl | rfl | rfl <;> simp), .inl rfl⟩
theorem KeptK.ofT {w w' : World} {p q mb : Nat} {v v' : Value} (h : KeptT w w' q v v') : KeptK w w' p q mb v v' :=
  ⟨h.1.mono (fun x hx => by simp only [List.mem_cons] at hx ⊢; rcases hx with rfl | hx; · simp
                            simp [hx]), h.2⟩
theorem KeptK.trans {w w1 w2 : World} {p q mb : Nat} {v v1 v2 : Value} (h : KeptK w w1 p q mb v v1) (k : KeptK w1 w2 p q mb v1 v2) : KeptK w w2 p q mb v v2 := by
  refine ⟨h.1.trans k.1 (fun _ hx => hx) (fun x hx => ?_), ?_⟩
  · simp only [List.mem_cons, Option.mem_toList] at hx ⊢
    rcases hx with rfl | rfl | rfl | hx
    · simp
    · simp
    · simp
    · rcases h.2 with e | e | ⟨g, e, hg⟩
      · rw [e] at hx; simp [hx]
      · rw [e] at hx; simp at hx
      · rw [e] at hx; simp at hx; subst hx; exact .inr hg
  · rcases k.2 with e | e | ⟨g, e, hg⟩
    · rw [e]; exact h.2
    · exact .inr (.inl e)
    · exact .inr (.inr ⟨g, e, Nat.le_trans h.1.size hg⟩)
variable {w w' : World} {p q mb n : Nat} {v v' : Value} {room now now' no no' asked full : Int} {h h' : List En} {f f' : Int → Int}
theorem Nk.kept (s : Nk w p q mb n v room now no asked full h f) (hk : Kept [] w w') : Nk w' p q mb n v room now no asked full h f :=
  ⟨hk.blk s.hp (by simp), s.ts.kept hk, s.mp.kept hk (by simp), s.pq, s.pm, s.qm, s.vp, s.vm⟩
theorem Nk.turn (s : Nk w p q mb n v room now no asked full h f) (hk : KeptT w w' q v v') (ht : Ts w' q v' room now' no' h') : Nk w' p q mb n v' room now' no' asked full h' f := by
  have hv : ∀ b, b < w.heap.size → v.ownBlock ≠ some b → v'.ownBlock ≠ some b := fun b hb hn e => by
    rcases hk.2 with e2 | e2 | ⟨g, e2, hg⟩
    · exact hn (e2.symm.trans e)
    · rw [e2] at e; cases e
    · rw [e2] at e; injection e with e; omega
  exact ⟨hk.1.blk s.hp (by simp only [List.mem_cons, Option.mem_toList, not_or]; exact ⟨s.pq, s.vp⟩), ht, s.mp.kept hk.1 (by simp only [List.mem_cons, Option.mem_toList, not_or]; exact ⟨s.qm.symm, s.vm⟩), s.pq, s.pm, s.qm, hv p s.hp.lt s.vp, hv mb s.mp.lt s.vm⟩
/-- The map alone has turned. -/
theorem Nk.mapped {m : Nat} (s : Nk w p q mb n v room now no asked full h f) (hm : Mp w' mb m f') (hg : w.grownBy w' (some mb)) : Nk w' p q mb m v room now no asked full h f' ∧ KeptK w w' p q mb v v := by
  have k : Kept [mb] w w' := (Kept.refl [mb] w).grown hg (fun k e => by injection e with e; simp [e])
  have hts : Ts w' q v room now no h := ⟨k.blk s.ts.hq (by simp [s.qm]), s.ts.own.kept hg (.inr s.vm), s.ts.ne⟩
  exact ⟨⟨k.blk s.hp (by simp [s.pm]), hts, hm, s.pq, s.pm, s.qm, s.vp, s.vm⟩, KeptK.of k (by simp)⟩
set_option maxHeartbeats 800000 in
theorem nlen_any (w : World) (s : Nk w p q mb n v room now no asked full h f) :
    Calls Try.prog 12 #[.pointer (some ⟨p, 0, none⟩)] w fun e w' => e = .returned (.int .i64 h.length) ∧ w = w' := by
  have c0 := s.hp.cell (i := 0) rfl
  have HL := hx (tlen_any q v room now no h w s.ts)
  clear s
  go_enter Try.func12, Try.ntmps12
  go_wp2_with (go_at_call 26; refine HL.out.mono ?_; rintro e w1 ⟨rfl, rfl⟩)
  go_ret
  exact ⟨rfl, rfl⟩
set_option maxHeartbeats 800000 in
theorem nasked_any (w : World) (s : Nk w p q mb n v room now no asked full h f) :
    Calls Try.prog 34 #[.pointer (some ⟨p, 0, none⟩)] w fun e w' => e = .returned (.int .i64 asked) ∧ w = w' := by
  have c2 := s.hp.cell (i := 2) rfl
  clear s
  go_enter Try.func34, Try.ntmps34
  go_wp2
  go_ret
  exact ⟨rfl, rfl⟩
set_option maxHeartbeats 800000 in
theorem nfull_any (w : World) (s : Nk w p q mb n v room now no asked full h f) :
    Calls Try.prog 35 #[.pointer (some ⟨p, 0, none⟩)] w fun e w' => e = .returned (.int .i64 full) ∧ w = w' := by
  have c3 := s.hp.cell (i := 3) rfl
  clear s
  go_enter Try.func35, Try.ntmps35
  go_wp2
  go_ret
  exact ⟨rfl, rfl⟩
set_option maxHeartbeats 1600000 in
theorem nhas_any (k : Int) (w : World) (s : Nk w p q mb n v room now no asked full h f) (hb : h.length ≤ 1000000) (h0 : 0 ≤ now) (h1 : now ≤ 1099511627776) (hd : ∀ x, x ∈ h → now < x.due ∧ x.due ≤ 2199023255552) :
    Calls Try.prog 10 #[.pointer (some ⟨p, 0, none⟩), .int .u32 k] w fun e w' => e = .returned (.bool (leftV now k h).2) ∧ Kept [] w w' := by
  have c0 := s.hp.cell (i := 0) rfl
  have HL := hx (tleft_any q v room now no k h w s.ts hb h0 h1 hd)
  clear s h0 h1 hd hb
  go_enter Try.func10, Try.ntmps10
  go_wp2_with (go_at_call 22; refine HL.out.mono ?_; rintro e w1 ⟨rfl, hk1⟩; have HK1 := hx hk1; clear hk1)
  go_ret
  exact ⟨rfl, HK1.out⟩
theorem zeroNack (w : World) : (zeroValue nackT).run Try.prog w = .ok (.agg #[.pointer none, .map none, .int .i64 0, .int .i64 0]) w := by kernel_rfl
set_option maxHeartbeats 1600000 in
theorem nnew_any (room : Int) (w : World) (h1 : 1 ≤ room) (h2 : room ≤ 64) :
    Calls Try.prog 14 #[.int .i64 room] w fun e w' => ∃ p q mb, e = .returned (.tuple #[.pointer (some ⟨p, 0, none⟩), .int .i64 0]) ∧ Nk w' p q mb 0 (.slice none 0 0) room 0 0 0 0 [] (fun _ => 0) ∧ Kept [] w w' ∧ w.heap.size ≤ p ∧ w.heap.size ≤ q ∧ w.heap.size ≤ mb := by
  have hz := zeroNack
  have hmm := @run_makeMap Try.prog
  have HN := hx (tnew_any room w h1 (by omega))
  have hg : ¬ 64 < room := by omega
  clear h1 h2
  go_enter Try.func14, Try.ntmps14
  go_wp2_with (go_at_call 28; refine HN.out.mono ?_; rintro e w1 ⟨rfl, hs1, hk1⟩; have HK1 := hx hk1; have HS1 := hx hs1; have HZ := hx hs1.hq.lt; clear hk1 hs1)
  go_ret2
  have hs1 := HS1.out
  have hk1 := HK1.out
  have hz1 := HZ.out
  have hsz := hk1.size
  have M1 := Mp.made w1
  have kA : Kept [] w1 ((w1.alloc (.map #[] 0)).alloc (.cells #[.pointer (some ⟨w.heap.size, 0, none⟩), .map (some w1.heap.size), .int .i64 0, .int .i64 0] nackT)) := ((Kept.refl [] w1).alloc _).alloc _
  have hB := Blk.new (w1.alloc (.map #[] 0)) [.pointer (some ⟨w.heap.size, 0, none⟩), .map (some w1.heap.size), .int .i64 0, .int .i64 0] nackT
  rw [World.size_alloc] at hB
  refine ⟨w1.heap.size + 1, w.heap.size, w1.heap.size, rfl, ⟨hB, hs1.kept kA, M1.kept ((Kept.refl [] _).alloc _) (by simp), by omega, by omega, by omega, by simp [Value.ownBlock], by simp [Value.ownBlock]⟩, hk1.trans0 kA, by omega, Nat.le_refl _, hsz⟩
theorem u32_wf {k : Int} (h0 : 0 ≤ k) (h1 : k < 4294967296) : (Lit.int .u32 k).wf = true := by
  simp only [Lit.wf, Bool.and_eq_true, decide_eq_true_eq]
  exact ⟨h0, by show k ≤ 4294967295; omega⟩
/-- What Stop leaves. -/
def NStopP (w : World) (p q mb n : Nat) (v : Value) (room now no asked full k : Int) (h : List En) (f : Int → Int) (e : Ending) (w' : World) : Prop :=
  e = .returned (.tuple #[]) ∧ ∃ v' h', KeptK w w' p q mb v v' ∧ Nk w' p q mb n v' room now no asked full h' (fun j => if j = k then 0 else f j) ∧ ((keyAt k h = none ∧ h' = h) ∨ (∃ i, keyAt k h = some i ∧ h' = h.eraseIdx i))
set_option maxHeartbeats 1600000 in
theorem nstop_any (k : Int) (w : World) (s : Nk w p q mb n v room now no asked full h f) (hb : h.length ≤ 1000000) (hk : (Lit.int .u32 k).wf = true) :
    Calls Try.prog 13 #[.pointer (some ⟨p, 0, none⟩), .int .u32 k] w (NStopP w p q mb n v room now no asked full k h f) := by
  have c0 := s.hp.cell (i := 0) rfl
  have HS := hx s
  have HL := hx (tstop_any q v room now no k h w s.ts hb)
  have HKW := hx hk
  generalize hPP : NStopP w p q mb n v room now no asked full k h f = PP at *
  have HPP := hx hPP
  clear s hb hk hPP
  go_enter Try.func13, Try.ntmps13
  go_wp2_with fail
  refine HL.out.mono ?_
  rintro e w1 ⟨v1, h1, hk1, ht1, hr⟩
  have HS1 := hx (HS.out.turn hk1 ht1)
  have HK1 := hx hk1
  have HR := hx hr
  have d1 := HS1.out.hp.cell (i := 1) rfl
  have he : ∃ b, e = .returned (.bool b) := by rcases hr with ⟨_, e1, _⟩ | ⟨_, _, e1, _⟩ <;> exact ⟨_, e1⟩
  obtain ⟨eb, rfl⟩ := he
  clear hk1 ht1 hr c0
  obtain ⟨w2, hdel, hm2, hg2⟩ := HS1.out.mp.drop HKW.out 0
  have HM2 := hx (HS1.out.mapped hm2 hg2)
  clear hm2 hg2
  go_wp2
  refine bodyPost_ret (results_none rfl _ _ _) rfl ?_
  rw [← HPP.out]
  refine ⟨rfl, v1, h1, (KeptK.ofT HK1.out).trans HM2.out.2, HM2.out.1, ?_⟩
  rcases HR.out with ⟨a, _, b⟩ | ⟨i, a, _, b⟩
  · exact .inl ⟨a, b⟩
  · exact .inr ⟨i, a, b⟩
end Go.Proofs.Yteobkcmfpmolmaa
