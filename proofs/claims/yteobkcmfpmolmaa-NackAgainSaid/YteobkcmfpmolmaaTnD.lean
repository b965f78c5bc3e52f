/- The timer's Stop, Clear, Left. -/
import Derived.Test.YteobkcmfpmolmaaTnC
namespace Go.Proofs.Yteobkcmfpmolmaa
open Go Go.RowKit Go.Shelf
/-- What a call leaves: the set's own blocks alone are turned, its slice lies where it lay, or is new. -/
def KeptT (w w' : World) (q : Nat) (v v' : Value) : Prop := Kept (q :: v.ownBlock.toList) w w' ∧ (v'.ownBlock = v.ownBlock ∨ v'.ownBlock = none ∨ ∃ g, v'.ownBlock = some g ∧ w.heap.size ≤ g)
theorem KeptT.refl (w : World) (q : Nat) (v : Value) : KeptT w w q v v := ⟨Kept.refl _ _, .inl rfl⟩
theorem KeptT.of {w w' : World} {q : Nat} {v : Value} (h : Kept [] w w') : KeptT w w' q v v := ⟨h.mono (by simp), .inl rfl⟩
theorem KeptT.trans {w w1 w2 : World} {q : Nat} {v v1 v2 : Value} (h : KeptT w w1 q v v1) (k : KeptT w1 w2 q v1 v2) : KeptT w w2 q v v2 := by
  have hs := h.1.size
  refine ⟨h.1.trans k.1 (fun _ h => h) (fun x hx => ?_), ?_⟩
  · rcases List.mem_cons.1 hx with rfl | hx
    · exact .inl (by simp)
    · simp only [Option.mem_toList] at hx
      rcases h.2 with e | e | ⟨g, e, hg⟩
      · rw [e] at hx; exact .inl (by simp [hx])
      · rw [e] at hx; simp at hx
      · rw [e] at hx
        simp at hx
        right; omega
  · rcases k.2 with e | e | ⟨g, e, hg⟩
    · rw [e]; exact h.2
    · exact .inr (.inl e)
    · exact .inr (.inr ⟨g, e, by omega⟩)
theorem own_ts {w w2 : World} {base q : Nat} {e : TypeId} {v : Value} {n : Nat} {xs : List Value} (h : w.ownsRow base e 3 v n xs) (hk : Kept [q] w w2) (hq : v.ownBlock ≠ some q) : w2.ownsRow base e 3 v n xs :=
  own_kept3 h (fun g cs hg hc => hk.block g (Array.getElem?_eq_some_iff.1 hc).1 (by simp; rintro rfl; exact hq hg))
/-- The slice is turned, and laid into the set anew. -/
theorem Ts.put {w w1 : World} {q : Nat} {v v' : Value} {room now no : Int} {h h' : List En} (s : Ts w q v room now no h) (hk : Kept v.ownBlock.toList w w1) (ho : w1.ownsRow 0 78 3 v' h'.length (cel h')) (hv : v'.ownBlock = v.ownBlock ∨ v'.ownBlock = none ∨ ∃ g, v'.ownBlock = some g ∧ w.heap.size ≤ g) :
    Ts (w1.setCell ⟨q, 3, none⟩ v') q v' room now no h' ∧ KeptT w (w1.setCell ⟨q, 3, none⟩ v') q v v' := by
  have hlt := s.hq.lt
  have hne : v'.ownBlock ≠ some q := by
    rcases hv with e | e | ⟨g, e, hg⟩
    · rw [e]; exact s.ne
    · rw [e]; simp
    · rw [e]; intro e2; simp at e2; omega
  have hq1 := hk.blk s.hq (by simp only [Option.mem_toList]; exact s.ne)
  refine ⟨⟨hq1.set 3 v', own_ts ho ((Kept.refl [q] w1).setCell (p := ⟨q, 3, none⟩) (.inl (by simp)) v') hne, hne⟩, ?_, hv⟩
  exact (hk.mono (cs := q :: v.ownBlock.toList) (fun x hx => .inl (List.mem_cons_of_mem _ hx))).setCell (p := ⟨q, 3, none⟩) (.inl (by simp)) v'
theorem Ts.put0 {w : World} {q : Nat} {v : Value} {room now no : Int} {h : List En} (s : Ts w q v room now no h) :
    Ts (w.setCell ⟨q, 3, none⟩ (.slice none 0 0)) q (.slice none 0 0) room now no [] ∧ KeptT w (w.setCell ⟨q, 3, none⟩ (.slice none 0 0)) q v (.slice none 0 0) :=
  s.put (Kept.refl _ _) (World.ownsRow_nil _ _ _ 3) (.inr (.inl rfl))
theorem take_drop_erase (h : List En) (i : Nat) : h.take i ++ h.drop (i + 1) = h.eraseIdx i := by rw [List.eraseIdx_eq_take_drop_succ]
def StopP (w : World) (q : Nat) (v : Value) (room now no k : Int) (h : List En) (e : Ending) (w' : World) : Prop :=
  ∃ v' h', KeptT w w' q v v' ∧ Ts w' q v' room now no h' ∧ ((keyAt k h = none ∧ e = .returned (.bool false) ∧ h' = h) ∨ (∃ i, keyAt k h = some i ∧ e = .returned (.bool true) ∧ h' = h.eraseIdx i))
set_option maxHeartbeats 1600000 in
theorem tstop_any (q : Nat) (v : Value) (room now no k : Int) (h : List En) (w : World) (s : Ts w q v room now no h) (hb : h.length ≤ 1000000) :
    Calls Try.prog 27 #[.pointer (some ⟨q, 0, none⟩), .int .u32 k] w (StopP w q v room now no k h) := by
  have HS := hx s
  have HF := hx (find_any q v room now no k h w s hb)
  generalize hPP : StopP w q v room now no k h = PP at *
  have HPP := hx hPP
  clear hPP s
  cases hk : keyAt k h with
  | none =>
    have HK := hx hk
    rw [fi_none hk] at HF
    clear hk
    go_enter Try.func27, Try.ntmps27
    go_wp2_with (go_at_call 37; refine HF.out.mono ?_; rintro e w1 ⟨rfl, hk1⟩; have HK1 := hx hk1; clear hk1)
    rw [← HPP.out]
    exact ⟨v, h, KeptT.of HK1.out, HS.out.kept HK1.out, .inl ⟨HK.out, rfl, rfl⟩⟩
  | some i =>
    have HK := hx hk
    have hi := (keyAt_some hk).1
    rw [fi_some hk] at HF
    clear hk
    have hin : (0 : Int) ≤ (i : Int) := by omega
    have hi1 : ((i : Int) + 1) = ((i + 1 : Nat) : Int) := by omega
    have HI1 := hx hi1
    clear hi1
    have hib : (i : Int) ≤ 1000000 := by omega
    go_enter Try.func27, Try.ntmps27
    go_wp2_with fail
    refine HF.out.mono ?_
    rintro e w1 ⟨rfl, hk1⟩
    have HK1 := hx hk1
    have HS1 := hx (HS.out.kept hk1)
    have c3 := HS1.out.hq.cell (i := 3) rfl
    have HD := hx (show Calls Try.prog 38 #[v, .int .i64 i, .int .i64 ((i : Int) + 1)] w1 _ from by rw [HI1.out]; exact del_any v h i (i + 1) w1 HS1.out.own (by omega) (by omega))
    clear hk1
    go_wp2_with fail
    refine HD.out.mono ?_
    rintro e w2 ⟨v', rfl, ho, hv, hk2⟩
    rw [take_drop_erase] at ho
    generalize hL : h.eraseIdx i = L at *
    have HL := hx hL
    clear hL
    obtain ⟨a', c', rfl⟩ := own_slice ho
    have HB2 := hx (hk2.blk HS1.out.hq (by simp only [Option.mem_toList]; exact HS1.out.ne))
    have d3 := HB2.out.cell (i := 3) rfl
    have df := HB2.out.free
    have HO := hx (HS1.out.put hk2 ho (.inl hv))
    clear hk2 ho hv c3
    go_wp2
    rw [← HPP.out]
    exact ⟨_, _, (KeptT.of HK1.out).trans HO.out.2, HO.out.1, .inr ⟨i, HK.out, rfl, HL.out.symm⟩⟩
def leftV (now k : Int) (h : List En) : Int × Bool := match keyAt k h with | some i => ((h.getD i en0).due - now, true) | none => (0, false)
set_option maxHeartbeats 1600000 in
theorem tleft_any (q : Nat) (v : Value) (room now no k : Int) (h : List En) (w : World) (s : Ts w q v room now no h) (hb : h.length ≤ 1000000) (h0 : 0 ≤ now) (h1 : now ≤ 1099511627776) (hd : ∀ x, x ∈ h → now < x.due ∧ x.due ≤ 2199023255552) :
    Calls Try.prog 22 #[.pointer (some ⟨q, 0, none⟩), .int .u32 k] w fun e w' => e = .returned (.tuple #[.int .i64 (leftV now k h).1, .bool (leftV now k h).2]) ∧ Kept [] w w' := by
  have HS := hx s
  have HF := hx (find_any q v room now no k h w s hb)
  have HB := hx (And.intro h0 h1)
  have HD := hx hd
  clear s h0 h1 hd
  cases hk : keyAt k h with
  | none =>
    have HV := hx (show leftV now k h = (0, false) by unfold leftV; rw [hk])
    rw [fi_none hk] at HF
    clear hk
    go_enter Try.func22, Try.ntmps22
    go_wp2_with (go_at_call 37; refine HF.out.mono ?_; rintro e w1 ⟨rfl, hk1⟩; have HK1 := hx hk1; clear hk1)
    go_ret2
    exact ⟨by rw [HV.out]; rfl, HK1.out⟩
  | some i =>
    have HV := hx (show leftV now k h = ((h.getD i en0).due - now, true) by unfold leftV; rw [hk])
    have hi := (keyAt_some hk).1
    rw [fi_some hk] at HF
    clear hk
    have hin : (0 : Int) ≤ (i : Int) := by omega
    have hil : (i : Int) < (h.length : Int) := by omega
    have hdd := HD.out (h.getD i en0) (by simp [List.getD, hi])
    have hsub : IntKind.i64.wrap ((h.getD i en0).due - now) = (h.getD i en0).due - now := by have := HB.out; exact IntWalk.i64_in _ (by omega)
    go_enter Try.func22, Try.ntmps22
    go_wp2_with fail
    refine HF.out.mono ?_
    rintro e w1 ⟨rfl, hk1⟩
    have HK1 := hx hk1
    have HS1 := hx (HS.out.kept hk1)
    have c3 := HS1.out.hq.cell (i := 3) rfl
    have c1 := HS1.out.hq.cell (i := 1) rfl
    have hown := HS1.out.own
    obtain ⟨_, ⟨_, h0⟩ | ⟨g, cap, cur, rfl, _, hg, _⟩⟩ := hown
    · omega
    have hcel := cel_cells HS1.out.own i hi 1 (.int .i64 (h[i]!).due) rfl
    rw [show h[i]! = h.getD i en0 by simp [List.getD, hi]] at hcel
    clear hk1 hg hdd
    generalize (h.getD i en0).due = d at *
    simp only [Nat.zero_add] at hcel
    go_wp2_with fail
    go_quiet (fail)
    have K := hx ((Kept.refl [] w1).drewN nq)
    go_wp2
    go_ret2
    exact ⟨by rw [HV.out]; rfl, HK1.out.trans0 K.out⟩
end Go.Proofs.Yteobkcmfpmolmaa
