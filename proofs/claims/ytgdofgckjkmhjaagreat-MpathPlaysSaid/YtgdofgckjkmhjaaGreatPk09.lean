/- The queue's Push. Printed by k/gen_qda.py. The queue's Pop and Peek. Printed by k/gen_qdc.py. A sender of datagrams by two ways: its state, in memory. The sender's order of ways; New, Waiting, Heard. The sender's stamp. Printed by k/gen_mpt.py. -/
import Derived.Test.YtgdofgckjkmhjaaGreatPk08
import Derived.Test.YtgdofgckjkmhjaaGreatPk01
import Derived.Test.YtgdofgckjkmhjaaGreatPk05
import Derived.Test.YtgdofgckjkmhjaaGreatPk04
set_option linter.unusedSimpArgs false
set_option linter.unusedVariables false
namespace Go.Proofs.YtgdofgckjkmhjaaGreat.Qd
open Go Go.RowKit
set_option linter.unusedSimpArgs false in
set_option maxRecDepth 100000 in
set_option maxHeartbeats 12800000 in
theorem push_any (q : Nat) (v : Value) (room turns rank : Int) (x : Dv) (h : List It) (w : World) (s : Qs w q v room turns h) (hb : h.length ≤ 100000) (ht0 : 0 ≤ turns) (ht1 : turns ≤ 1000000) :
    Calls Tryz.prog 16 #[.pointer (some ⟨q, 0, none⟩), .int .i64 rank, .agg (dvl x).toArray] w (PushP w q v room (turns + 1) h ⟨rank, turns + 1, x⟩) := by
  have HS := hx s
  have hql := s.hq.lt
  have HOL := hx (fun g (hg : v.ownBlock = some g) => own_lt s.own hg)
  clear s
  go_enter Tryz.func16, Tryz.ntmps16
  go_upto_region 1 with fail
  generalize hw0 : World.alloc (World.alloc w _) _ = w0
  have hk0 : Kept [] w w0 := by rw [← hw0]; exact ((Kept.refl _ _).alloc _).alloc _
  have hb5 : Blk w0 w.heap.size (dvl x) 50 := by rw [← hw0]; exact (Blk.new w (dvl x) _).alloc _
  have hb6 : Blk w0 (w.heap.size + 1) (dvl dv0) 50 := by
    rw [← hw0]
    have h := Blk.new (w.alloc (.cells (dvl x).toArray 50)) (dvl dv0) 50
    rw [show (w.alloc (.cells (dvl x).toArray 50)).heap.size = w.heap.size + 1 by simp] at h
    exact h
  clear hw0
  have hq0 := hk0.blk HS.out.hq (by simp)
  have c1 := hq0.cell (i := 1) rfl
  have hf := hq0.free 1
  go_upto_region 2 with fail
  generalize hw1 : World.setCell w0 _ _ = w1
  have hq1 : Blk w1 q [.int .i64 room, .int .i64 (turns + 1), v] 108 := by rw [← hw1]; exact hq0.set 1 _
  have HZ := hx (show Blk w1 (w.heap.size + 1) (dvl dv0) 50 by rw [← hw1]; exact hb6.set_ne (by show w.heap.size + 1 ≠ q; omega) _)
  have HB5 := hx (show Blk w1 w.heap.size (dvl x) 50 by rw [← hw1]; exact hb5.set_ne (by show w.heap.size ≠ q; omega) _)
  have HK1 := hx (show Kept [q] w w1 by rw [← hw1]; exact (hk0.mono (by simp)).setCell (.inl (by simp)) _)
  have hown : w1.ownsRow 0 110 13 v h.length (cel h) := by
    have h0 : w0.ownsRow 0 110 13 v h.length (cel h) := own_kept3 HS.out.own (fun g cs _ hg => hk0.block g (Array.getElem?_eq_some_iff.1 hg).1 (by simp))
    rw [← hw1]
    refine World.ownsRow.kept (row := some q) h0 ⟨rfl, rfl, rfl, by simp [World.setCell], fun k hk hn => Below.heap_setCell _ _ _ _ (fun e => hn (congrArg some e))⟩ ?_
    exact .inr HS.out.ne
  have OWN := hx (fun (W : World) (hk : Kept [] w1 W) => show W.ownsRow 0 110 13 v h.length (cel h) from own_kept3 hown (fun g cs _ hg => hk.block g (Array.getElem?_eq_some_iff.1 hg).1 (by simp)))
  have HQ := hx hq1
  have HLT := hx hql
  have HNE := hx (show q ∉ v.ownBlock.toList ∧ (w.heap.size + 1) ∉ v.ownBlock.toList ∧ v.ownBlock ≠ some q from ⟨fun hm => HS.out.ne (by simpa using hm), fun hm => by have := HOL.out _ (by simpa using hm); omega, HS.out.ne⟩)
  have HSF := hx (fun (w3 : World) (hk : Kept v.ownBlock.toList w1 w3) => show (fun w3 => w3.cell? ⟨q, 1, none⟩ = some (.int .i64 (turns + 1)) ∧ w3.rangeAt w.heap.size 0 (dvl x)) w3 from ⟨(hk.blk hq1 HNE.out.1).cell (i := 1) rfl, (hk.blk HB5.out (fun hm => by have := HOL.out _ (by simpa using hm); omega)).range⟩)
  have HSK := hx (fun (w3 : World) (hk : Kept [] w1 w3) => HSF.out w3 (hk.mono (by simp)))
  have HSW := hx (fun (w3 : World) (u : Value) (hs : (fun w3 => w3.cell? ⟨q, 1, none⟩ = some (.int .i64 (turns + 1)) ∧ w3.rangeAt w.heap.size 0 (dvl x)) w3) => show (fun w3 => w3.cell? ⟨q, 1, none⟩ = some (.int .i64 (turns + 1)) ∧ w3.rangeAt w.heap.size 0 (dvl x)) (w3.setCell ⟨q, 2, none⟩ u) from ⟨by rw [World.cell?_setCell_other _ _ _ _ (by simp)]; exact hs.1, fun j y hj => by rw [World.cell?_setCell_other _ _ _ _ (fun e => by have h1 := congrArg Addr.block e; have h2 := HLT.out; simp only at h1; omega)]; exact hs.2 j y hj⟩)
  clear c1 hf hk0 hb5 hb6 hq0 hw1 hq1 hown hql
  go_cut [7] (fun s7 wx => s7 = .bool false ∧ ∃ v', Qs wx q v' room (turns + 1) (h ++ [⟨rank, turns + 1, x⟩]) ∧ Blk wx (w.heap.size + 1) (dvl dv0) 50 ∧ Kept (q :: v.ownBlock.toList) w1 wx ∧ (v'.ownBlock = v.ownBlock ∨ ∃ g, v'.ownBlock = some g ∧ w1.heap.size ≤ g))
  case first =>
    refine wp_region_held_drew (S := (fun w3 => w3.cell? ⟨q, 1, none⟩ = some (.int .i64 (turns + 1)) ∧ w3.rangeAt w.heap.size 0 (dvl x))) (by kernel_rfl) (HSK.out _ (Kept.drew (Kept.refl [] w1))) (fun hHeld => ?_)
    refine take_by 0 16 (v := ?_) rfl rfl (by kernel_rfl) (by kernel_rfl) (by kernel_rfl) (fun _ _ _ h => h) (Or.inl ⟨by rfl, ?_⟩) (by assumption) ?_
    rotate_left
    · (intro w hSw; (try dsimp only at hSw); go_simp; try with_reducible rfl)
    try simp only [List.setIfInBounds_toArray, List.set_cons_zero, List.set_cons_succ]
    refine take_by 1 17 (v := ?_) rfl rfl (by kernel_rfl) (by kernel_rfl) (by kernel_rfl) (fun _ _ _ h => h) (Or.inl ⟨by rfl, ?_⟩) (by assumption) ?_
    rotate_left
    · (intro w hSw; (try dsimp only at hSw); go_simp; try with_reducible rfl)
    try simp only [List.setIfInBounds_toArray, List.set_cons_zero, List.set_cons_succ]
    refine take_by 2 18 (v := ?_) rfl rfl (by kernel_rfl) (by kernel_rfl) (by kernel_rfl) (fun _ _ _ h => h) (Or.inl ⟨by rfl, ?_⟩) (by assumption) ?_
    rotate_left
    · (intro w hSw; (try dsimp only at hSw); go_simp; try with_reducible rfl)
    try simp only [List.setIfInBounds_toArray, List.set_cons_zero, List.set_cons_succ]
    refine take_by 3 19 (v := ?_) rfl rfl (by kernel_rfl) (by kernel_rfl) (by kernel_rfl) (fun _ _ _ h => h) (Or.inl ⟨by rfl, ?_⟩) (by assumption) ?_
    rotate_left
    · (intro w hSw; (try dsimp only at hSw); go_simp; try with_reducible rfl)
    try simp only [List.setIfInBounds_toArray, List.set_cons_zero, List.set_cons_succ]
    refine take_by 5 21 (v := ?_) rfl rfl (by kernel_rfl) (by kernel_rfl) (by kernel_rfl) (fun _ _ _ h => h) (Or.inl ⟨by rfl, ?_⟩) (by assumption) ?_
    rotate_left
    · (intro w hSw; (try dsimp only at hSw); go_simp; try with_reducible rfl)
    try simp only [List.setIfInBounds_toArray, List.set_cons_zero, List.set_cons_succ]
    refine take_by 6 22 (v := ?_) rfl rfl (by kernel_rfl) (by kernel_rfl) (by kernel_rfl) (fun _ _ _ h => h) (Or.inl ⟨by rfl, ?_⟩) (by assumption) ?_
    rotate_left
    · (intro w hSw; (try dsimp only at hSw); go_simp; try with_reducible rfl)
    try simp only [List.setIfInBounds_toArray, List.set_cons_zero, List.set_cons_succ]
    refine take_by 7 23 (v := ?_) rfl rfl (by kernel_rfl) (by kernel_rfl) (by kernel_rfl) (fun _ _ _ h => h) (Or.inl ⟨by rfl, ?_⟩) (by assumption) ?_
    rotate_left
    · (intro w hSw; (try dsimp only at hSw); go_simp; try with_reducible rfl)
    try simp only [List.setIfInBounds_toArray, List.set_cons_zero, List.set_cons_succ]
    refine take_by 8 24 (v := ?_) rfl rfl (by kernel_rfl) (by kernel_rfl) (by kernel_rfl) (fun _ _ _ h => h) (Or.inl ⟨by rfl, ?_⟩) (by assumption) ?_
    rotate_left
    · (intro w hSw; (try dsimp only at hSw); go_simp; try with_reducible rfl)
    try simp only [List.setIfInBounds_toArray, List.set_cons_zero, List.set_cons_succ]
    refine take_by 9 25 (v := ?_) rfl rfl (by kernel_rfl) (by kernel_rfl) (by kernel_rfl) (fun _ _ _ h => h) (Or.inl ⟨by rfl, ?_⟩) (by assumption) ?_
    rotate_left
    · (intro w hSw; (try dsimp only at hSw); go_simp; try with_reducible rfl)
    try simp only [List.setIfInBounds_toArray, List.set_cons_zero, List.set_cons_succ]
    refine take_by 10 26 (v := .agg (dvl x).toArray) rfl rfl (by kernel_rfl) (by kernel_rfl) (by kernel_rfl) (fun _ _ _ h => h) (yieldsIf_load_mid (by rfl) 50 (.tmp 5) rfl w.heap.size (0) rfl (dvl x) _ (fun _ hS => hS.2) Tryz.underlying50 rfl (by kernel_rfl)) (by assumption) ?_
    try simp only [List.setIfInBounds_toArray, List.set_cons_zero, List.set_cons_succ]
    refine take_by 11 27 (v := .agg (itc ⟨rank, turns + 1, x⟩).toArray) rfl rfl (by kernel_rfl) (by kernel_rfl) (by kernel_rfl) (fun _ _ _ h => h) (yieldsIf_build (by rfl) 110 _ rfl _ [(0, .int .i64 rank), (1, .int .i64 (turns + 1)), (2, .agg (dvl x).toArray)] (by simp only [List.map_toArray, List.map_cons, List.map_nil]; rfl) (builtIt rank (turns + 1) x)) (by assumption) ?_
    try simp only [List.setIfInBounds_toArray, List.set_cons_zero, List.set_cons_succ]
    refine wpAnyH_ready (rs := [4, 12]) (by kernel_rfl) (by simp) ?_
    refine AllReadyH.cons rfl (fun K hK => ?_) (AllReadyH.cons rfl (fun K hK => ?_) AllReadyH.nil)
    · have hh := (Blk.drew2 HQ.out)
      go_simp
      refine hK.out _ _ (HSK.out _ (Kept.drew (Kept.refl [] w1))) (fun _ => ?_)
      clear hK K hh
      try simp only [Act.put, List.getElem_toArray, List.getElem_cons_succ, List.getElem_cons_zero, List.setIfInBounds_toArray, List.set_cons_zero, List.set_cons_succ]
      refine wpAnyH_ready (rs := [12]) (by kernel_rfl) (by simp) ?_
      refine AllReadyH.cons rfl (fun K hK => ?_) AllReadyH.nil
      refine step_bs rfl (.tmp 27) rfl ⟨rank, turns + 1, x⟩ rfl ?_
      intro W1 hbs hks
      have BS := hx hbs
      have KS := hx (show Kept [] w1 W1 from (Kept.drew (Kept.refl [] w1)).trans0 hks)
      have hne : (some (⟨w1.drew.heap.size, 0, none⟩ : Addr)) = some ⟨w1.heap.size, 0, none⟩ := rfl
      clear hbs hks hne
      refine hK.out _ _ (HSK.out _ KS.out) (fun _ => ?_)
      clear hK K
      try simp only [Act.put, List.getElem_toArray, List.getElem_cons_succ, List.getElem_cons_zero, List.setIfInBounds_toArray, List.set_cons_zero, List.set_cons_succ]
      refine wpAnyH_ready (rs := [13]) (by kernel_rfl) (by simp) ?_
      refine AllReadyH.cons rfl (fun K hK => ?_) AllReadyH.nil
      refine step_app_at rfl (.tmp 20) (.tmp 28) 106 rfl 0 110 _ 13 104 infoIt3 Tryz.underlying106 rfl (by omega) v h.length (cel h) rfl (OWN.out _ KS.out) ⟨w1.heap.size, 0, none⟩ 1 1 (itc ⟨rank, turns + 1, x⟩) rfl rfl (newsB BS.out) (itc_one _) (by unfold maxLen; omega) (by omega) (Nat.zero_le _) ?_
      intro v2 w2 o2 g2 at2
      obtain ⟨gb, cb, ev⟩ := own_some o2
      subst ev
      have KG := hx (show Kept v.ownBlock.toList w1 w2 from (KS.out.mono (by simp)).trans ((Kept.refl v.ownBlock.toList _).grown g2 (fun k e => .inl (by simp [e]))) (fun _ h => h) (fun _ h => .inl h))
      have zq := KG.out.blk HQ.out HNE.out.1
      have z1 := zq.cell (i := 2) rfl
      have z2 := zq.free 2
      have PF := hx (push_fin HQ.out HNE.out.2.2 KS.out g2 o2 at2)
      have BZ := hx ((KG.out.blk HZ.out HNE.out.2.1).set_ne (a := ⟨q, 2, none⟩) (by have := HLT.out; show w.heap.size + 1 ≠ q; omega) (.slice (some ⟨gb, 0, none⟩) (h.length + 1) cb))
      have HS3 := hx (HSF.out _ KG.out)
      clear o2 g2 at2 zq
      refine hK.out _ _ HS3.out (fun _ => ?_)
      clear hK K
      try simp only [Act.put, List.getElem_toArray, List.getElem_cons_succ, List.getElem_cons_zero, List.setIfInBounds_toArray, List.set_cons_zero, List.set_cons_succ]
      refine take_by 14 30 (v := ?_) rfl rfl (by kernel_rfl) (by kernel_rfl) (by kernel_rfl) (fun _ _ _ h => h) (Or.inl ⟨by rfl, ?_⟩) (by assumption) ?_
      rotate_left
      · (intro w hSw; (try dsimp only at hSw); go_simp; try with_reducible rfl)
      try simp only [List.setIfInBounds_toArray, List.set_cons_zero, List.set_cons_succ]
      refine take_by 15 31 (v := ?_) rfl rfl (by kernel_rfl) (by kernel_rfl) (by kernel_rfl) (fun _ _ _ h => h) (Or.inl ⟨by rfl, ?_⟩) (by assumption) ?_
      rotate_left
      · (intro w hSw; (try dsimp only at hSw); go_simp; try with_reducible rfl)
      try simp only [List.setIfInBounds_toArray, List.set_cons_zero, List.set_cons_succ]
      refine wpAnyH_ready (rs := [16]) (by kernel_rfl) (by simp) ?_
      refine AllReadyH.cons rfl (fun K hK => ?_) AllReadyH.nil
      go_simp
      refine hK.out _ _ (HSW.out _ _ HS3.out) (fun _ => ?_)
      clear hK K
      try simp only [Act.put, List.getElem_toArray, List.getElem_cons_succ, List.getElem_cons_zero, List.setIfInBounds_toArray, List.set_cons_zero, List.set_cons_succ]
      refine wpAnyH_done (by kernel_rfl) ?_ _
      go_wp2_with fail
      go_meet
      exact ⟨rfl, _, PF.out.1, BZ.out, PF.out.2⟩
    · refine step_bs rfl (.tmp 27) rfl ⟨rank, turns + 1, x⟩ rfl ?_
      intro W1 hbs hks
      have BS := hx hbs
      have KS := hx (show Kept [] w1 W1 from (Kept.drew (Kept.refl [] w1)).trans0 hks)
      have hne : (some (⟨w1.drew.heap.size, 0, none⟩ : Addr)) = some ⟨w1.heap.size, 0, none⟩ := rfl
      clear hbs hks hne
      refine hK.out _ _ (HSK.out _ KS.out) (fun _ => ?_)
      clear hK K
      try simp only [Act.put, List.getElem_toArray, List.getElem_cons_succ, List.getElem_cons_zero, List.setIfInBounds_toArray, List.set_cons_zero, List.set_cons_succ]
      refine wpAnyH_ready (rs := [4]) (by kernel_rfl) (by simp) ?_
      refine AllReadyH.cons rfl (fun K hK => ?_) AllReadyH.nil
      have hh := (Blk.kept2 HQ.out KS.out)
      go_simp
      refine hK.out _ _ (HSK.out _ KS.out) (fun _ => ?_)
      clear hK K hh
      try simp only [Act.put, List.getElem_toArray, List.getElem_cons_succ, List.getElem_cons_zero, List.setIfInBounds_toArray, List.set_cons_zero, List.set_cons_succ]
      refine wpAnyH_ready (rs := [13]) (by kernel_rfl) (by simp) ?_
      refine AllReadyH.cons rfl (fun K hK => ?_) AllReadyH.nil
      refine step_app_at rfl (.tmp 20) (.tmp 28) 106 rfl 0 110 _ 13 104 infoIt3 Tryz.underlying106 rfl (by omega) v h.length (cel h) rfl (OWN.out _ KS.out) ⟨w1.heap.size, 0, none⟩ 1 1 (itc ⟨rank, turns + 1, x⟩) rfl rfl (newsB BS.out) (itc_one _) (by unfold maxLen; omega) (by omega) (Nat.zero_le _) ?_
      intro v2 w2 o2 g2 at2
      obtain ⟨gb, cb, ev⟩ := own_some o2
      subst ev
      have KG := hx (show Kept v.ownBlock.toList w1 w2 from (KS.out.mono (by simp)).trans ((Kept.refl v.ownBlock.toList _).grown g2 (fun k e => .inl (by simp [e]))) (fun _ h => h) (fun _ h => .inl h))
      have zq := KG.out.blk HQ.out HNE.out.1
      have z1 := zq.cell (i := 2) rfl
      have z2 := zq.free 2
      have PF := hx (push_fin HQ.out HNE.out.2.2 KS.out g2 o2 at2)
      have BZ := hx ((KG.out.blk HZ.out HNE.out.2.1).set_ne (a := ⟨q, 2, none⟩) (by have := HLT.out; show w.heap.size + 1 ≠ q; omega) (.slice (some ⟨gb, 0, none⟩) (h.length + 1) cb))
      have HS3 := hx (HSF.out _ KG.out)
      clear o2 g2 at2 zq
      refine hK.out _ _ HS3.out (fun _ => ?_)
      clear hK K
      try simp only [Act.put, List.getElem_toArray, List.getElem_cons_succ, List.getElem_cons_zero, List.setIfInBounds_toArray, List.set_cons_zero, List.set_cons_succ]
      refine take_by 14 30 (v := ?_) rfl rfl (by kernel_rfl) (by kernel_rfl) (by kernel_rfl) (fun _ _ _ h => h) (Or.inl ⟨by rfl, ?_⟩) (by assumption) ?_
      rotate_left
      · (intro w hSw; (try dsimp only at hSw); go_simp; try with_reducible rfl)
      try simp only [List.setIfInBounds_toArray, List.set_cons_zero, List.set_cons_succ]
      refine take_by 15 31 (v := ?_) rfl rfl (by kernel_rfl) (by kernel_rfl) (by kernel_rfl) (fun _ _ _ h => h) (Or.inl ⟨by rfl, ?_⟩) (by assumption) ?_
      rotate_left
      · (intro w hSw; (try dsimp only at hSw); go_simp; try with_reducible rfl)
      try simp only [List.setIfInBounds_toArray, List.set_cons_zero, List.set_cons_succ]
      refine wpAnyH_ready (rs := [16]) (by kernel_rfl) (by simp) ?_
      refine AllReadyH.cons rfl (fun K hK => ?_) AllReadyH.nil
      go_simp
      refine hK.out _ _ (HSW.out _ _ HS3.out) (fun _ => ?_)
      clear hK K
      try simp only [Act.put, List.getElem_toArray, List.getElem_cons_succ, List.getElem_cons_zero, List.setIfInBounds_toArray, List.set_cons_zero, List.set_cons_succ]
      refine wpAnyH_done (by kernel_rfl) ?_ _
      go_wp2_with fail
      go_meet
      exact ⟨rfl, _, PF.out.1, BZ.out, PF.out.2⟩
  case rest =>
    obtain ⟨rfl, v', hs', hz', hk', hn'⟩ := hcut
    have HZC := hx hz'
    have hzl := HZ.out.lt
    clear HSK HSF HSW OWN HQ HB5 hz'
    have hl1 : (h ++ [(⟨rank, turns + 1, x⟩ : It)]).length = h.length + 1 := by simp
    obtain ⟨g, cap, rest, hv', m⟩ := hs'.toQm (by rw [hl1]; omega)
    subst hv'
    have hlA := add_len h ⟨rank, turns + 1, x⟩
    have hgz : g ≠ w.heap.size + 1 := by
      rcases hn' with h1 | ⟨g', h1, h2⟩
      · simp only [Value.ownBlock] at h1
        have := HOL.out g h1.symm
        omega
      · simp only [Value.ownBlock, Option.some.injEq] at h1
        omega
    have hgv : g ∈ q :: v.ownBlock.toList ∨ w.heap.size ≤ g := by
      have hsz := HK1.out.size
      rcases hn' with h1 | ⟨g', h1, h2⟩
      · simp only [Value.ownBlock] at h1
        exact .inl (by simp; exact .inr h1.symm)
      · simp only [Value.ownBlock, Option.some.injEq] at h1
        right; omega
    have hk0 : Kept (q :: v.ownBlock.toList) w wc := HK1.out.trans hk' (by simp) (fun x hx => .inl hx)
    have hnf : (Value.slice (some ⟨g, 0, none⟩) 0 cap).ownBlock = v.ownBlock ∨ ∃ g', (Value.slice (some ⟨g, 0, none⟩) 0 cap).ownBlock = some g' ∧ w.heap.size ≤ g' := by
      have hsz := HK1.out.size
      rcases hn' with h1 | ⟨g', h1, h2⟩
      · exact .inl h1
      · exact .inr ⟨g', h1, by omega⟩
    have HGV := hx hgv
    have HK := hx hk0
    have HNF := hx hnf
    have HU := hx (up_any q g cap h.length room (turns + 1) (h ++ [⟨rank, turns + 1, x⟩]) rest wc m (by rw [hl1]; omega) (by rw [hl1]; omega))
    have c2 := m.hq.cell (i := 2) rfl
    rw [hl1] at c2
    have c2' : wc.cell? ⟨q, 2, none⟩ = some (.slice (some ⟨g, 0, none⟩) (h.length + 1) cap) := c2
    have HLA := hx hlA
    have hq2 := m.hne
    have HNZ := hx (show (w.heap.size + 1) ∉ [g] ∧ (w.heap.size + 1) ∉ [q, g] by have := HLT.out; simp; omega)
    have HA : Hx (addL h ⟨rank, turns + 1, x⟩ = upL (h ++ [⟨rank, turns + 1, x⟩]) h.length) := hx rfl
    clear c2 m hs' hk' hn' hl1 hgv hk0 hnf hlA hgz hzl HZ
    go_wp2_with fail
    refine HU.out.mono ?_
    rintro e w3 ⟨rfl, m3, hk3⟩
    rw [← HA.out] at m3
    have hk03 : Kept (q :: v.ownBlock.toList) w w3 := HK.out.trans hk3 (fun _ h => h) (by intro x hx; simp only [List.mem_cons, List.not_mem_nil, or_false] at hx; subst hx; exact HGV.out)
    have HZ3 := hx (hk3.blk HZC.out HNZ.out.1)
    clear c2'
    obtain ⟨h2, hh2⟩ : ∃ h2, addL h ⟨rank, turns + 1, x⟩ = h2 := ⟨_, rfl⟩
    rw [hh2] at HLA m3
    have HPA := hx (show PushP w q v room (turns + 1) h ⟨rank, turns + 1, x⟩ = fun e w' => ∃ v', (if room < (h2.length : Int) then e = .returned (.tuple #[.agg (dvl (at_ h2 (lastK h2 h2.length)).v).toArray, .bool true]) ∧ Qs w' q v' room (turns + 1) (takeL h2 (lastK h2 h2.length)) else e = .returned (.tuple #[.agg (dvl dv0).toArray, .bool false]) ∧ Qs w' q v' room (turns + 1) h2) ∧ Kept (q :: v.ownBlock.toList) w w' ∧ (v'.ownBlock = v.ownBlock ∨ ∃ g, v'.ownBlock = some g ∧ w.heap.size ≤ g) by funext e w'; unfold PushP; rw [hh2])
    have c0 := m3.hq.cell (i := 0) rfl
    have c2 : w3.cell? ⟨q, 2, none⟩ = some (.slice (some ⟨g, 0, none⟩) h2.length cap) := m3.hq.cell (i := 2) rfl
    have hl2 : 0 < h2.length := by rw [HLA.out]; omega
    have hb2 : h2.length ≤ 1000000 := by rw [HLA.out]; omega
    clear hh2 HA
    go_upto_region 4 with fail
    go_cut [49] (fun s49 wx => s49 = .bool (decide (room < (h2.length : Int))) ∧ Kept [] w3 wx)
    case first =>
      go_quiet (fail)
      all_goals (go_wp2_with fail)
      all_goals (go_meet; exact ⟨rfl, (Kept.refl _ _).drewN _⟩)
    case rest =>
      obtain ⟨rfl, hkx⟩ := hcut
      have m4 := m3.kept hkx
      have hk04 := hk03.trans0 hkx
      have HZ4 := hx (hkx.blk HZ3.out (by simp))
      clear m3 hk3 hk03 hkx c0 c2
      have HK4 := hx hk04
      clear hk04
      by_cases hr : room < (h2.length : Int)
      · have d := decide_eq_true hr
        rw [d]
        have HR := hx hr
        clear d hr
        go_wp2_with fail
        refine (last_any q g cap room (turns + 1) h2 rest _ m4 hl2 hb2).mono ?_
        rintro e w5 ⟨rfl, hk5⟩
        have m5 := m4.kept hk5
        have hk05 := HK4.out.trans0 hk5
        have HZ5 := hx (hk5.blk HZ4.out (by simp))
        clear m4 hk5
        go_wp2_with fail
        refine (take_any q g cap (lastK h2 h2.length) _ room (turns + 1) h2 rest _ m5 (lastK_lt' h2 _ hl2) hb2 rfl).mono ?_
        rintro e w6 ⟨rfl, m6, hk6⟩
        have hk06 := hx (kept_qg hk05 hk6 HGV.out)
        have M6 := hx m6
        have HZ6 := hx (hk6.blk HZ5.out HNZ.out.2)
        clear m5 m6 hk6 hk05
        have hfi := fun W => fieldIt (at_ h2 (lastK h2 h2.length)) W
        go_wp2_with (refine store_blk rfl 50 (.tmp 6) (.tmp 54) rfl (w.heap.size + 1) rfl 50 _ (dvl (at_ h2 (lastK h2 h2.length)).v) rfl HZ6.out rfl infoDg (dvl_one _) ?_; intro w7 hb7 hk7; have HB7 := hx hb7; have HK7 := hx hk7; clear hb7 hk7)
        refine bodyPost_ret (ret_blk2 rfl _ (w.heap.size + 1) _ _ _ _ rfl rfl HB7.out Tryz.underlying50 rfl infoDg) rfl ?_
        rw [HPA.out]
        refine ⟨.slice (some ⟨g, 0, none⟩) (takeL h2 (lastK h2 h2.length)).length cap, ?_, hk06.out.trans HK7.out (fun _ h => h) (fun x hx => by simp at hx; subst hx; right; omega), HNF.out⟩
        rw [if_pos (by have := HR.out; omega)]
        exact ⟨rfl, (M6.out.frame HK7.out (by have := HLT.out; simp; omega) (by have := HNZ.out.1; simp at this; simp; omega)).toQs⟩
      · have d := decide_eq_false hr
        rw [d]
        have HR := hx hr
        clear d hr
        have M4 := hx m4
        have HZ8 := hx (Blk.new wc (dvl dv0) 50)
        have HA4 := hx ((Kept.refl [] wc).alloc (.cells (dvl dv0).toArray 50))
        clear m4
        go_wp2_with (first
          | (refine load_blk rfl 50 (.tmp 8) rfl wc.heap.size rfl 50 _ _ HZ8.out Tryz.underlying50 rfl infoDg ?_)
          | (refine store_blk rfl 50 (.tmp 6) (.tmp 55) rfl (w.heap.size + 1) rfl 50 _ (dvl dv0) rfl (HA4.out.blk HZ4.out (by simp)) rfl infoDg (dvl_one _) ?_; intro w7 hb7 hk7; have HB7 := hx hb7; have HK7 := hx hk7; clear hb7 hk7))
        refine bodyPost_ret (ret_blk2 rfl _ (w.heap.size + 1) _ _ _ _ rfl rfl HB7.out Tryz.underlying50 rfl infoDg) rfl ?_
        rw [HPA.out]
        refine ⟨.slice (some ⟨g, 0, none⟩) h2.length cap, ?_, (HK4.out.trans0 HA4.out).trans HK7.out (fun _ h => h) (fun x hx => by simp at hx; subst hx; right; omega), HNF.out⟩
        rw [if_neg (by have := HR.out; omega)]
        exact ⟨rfl, ((M4.out.kept HA4.out).frame HK7.out (by have := HLT.out; simp; omega) (by have := HNZ.out.1; simp at this; simp; omega)).toQs⟩
end Go.Proofs.YtgdofgckjkmhjaaGreat.Qd
namespace Go.Proofs.YtgdofgckjkmhjaaGreat.Qd
open Go Go.RowKit
theorem step_storeB {P : Program} {w : World} {ops : Array Oper} {o : Oper} {a : Act} {K : Act → World → Prop} {Q : Exit → Act → World → Prop} {E : Prop} (hgd : o.guard = none) (ty : TypeId) (x y : Operand) (ho : o.op = .store ty x y)
    (g : Nat) (hx : a.eval x = .pointer (some ⟨g, 0, none⟩)) (T : TypeId) (xs ys : List Value) (hy : a.eval y = .agg ys.toArray) (hb : Blk w g xs T) (hl : ys.length = xs.length)
    (hi : (P.info? ty).map (·.size) = some ys.length) (h1 : ∀ v ∈ ys, v.oneCell' = true)
    (h : ∀ w', Blk w' g ys T → Kept [g] w w' → K (a.put o.dst undef) w') : if Region.wanted o (yielded ops a.tmps) = true then o.wp P a w K Q else E :=
  step_of hgd (wp_store_mid ty x y ho g 0 ys.toArray hx hy (hb.there (by simp [hl])) (by simpa using hi) (all_oneCell_toArray h1)
    (h _ (by
      have e := hb.setCells 0 ys
      rw [setAll_all _ _ hl] at e
      simpa using e) ((Kept.refl _ _).setCells (by simp) 0 _)))
theorem ret_blk13 {P : Program} {w : World} {fn : Func} {p q r : Tmp} {ty : TypeId} (h : fn.results = #[.cell p ty, .tmp q, .tmp r]) (tmps : Array Value) (g : Nat) (T : TypeId) (xs : List Value) (v u : Value) (d : TypeDesc)
    (hp : tmps.getD p undef = .pointer (some ⟨g, 0, none⟩)) (hq : tmps.getD q undef = v) (hr : tmps.getD r undef = u) (hb : Blk w g xs T)
    (hu : P.underlying ty = some d) (hd : (match d with | .struct _ | .array _ _ => true | _ => false) = true) (hi : (P.info? ty).map (·.size) = some xs.length) :
    (results fn tmps).run P w = .ok (.tuple #[.agg xs.toArray, v, u]) w := by
  have hp' : tmps[p]?.getD undef = .pointer (some ⟨g, 0, none⟩) := by simpa using hp
  have hq' : tmps[q]?.getD undef = v := by simpa using hq
  have hr' : tmps[r]?.getD undef = u := by simpa using hr
  simp [results, h, hp', hq', hr', asAddr, run_loadVar_row w g T ty xs.toArray (0, 0) d hb hu hd (by simpa using hi)]
theorem itc_rest {w : World} {b o : Nat} {y : It} (h : w.rangeAt b o (itc y)) : w.cell? ⟨b, o, none⟩ = some (.int .i64 y.rank) ∧ w.rangeAt b (o + 2) (dvl y.v) :=
  ⟨h 0 _ rfl, fun j v hv => by
    have h2 := h (2 + j) v (by rw [show 2 + j = j + 1 + 1 by omega]; exact hv)
    rw [show o + 2 + j = o + (2 + j) by omega]
    exact h2⟩
def PopP (w : World) (q : Nat) (v : Value) (room turns : Int) (h : List It) (e : Ending) (w' : World) : Prop :=
  e = .returned (.tuple #[.agg (dvl (at_ h 0).v).toArray, .int .i64 (at_ h 0).rank, .bool true]) ∧ ∃ v', Qs w' q v' room turns (takeL h 0) ∧ Kept (q :: v.ownBlock.toList) w w' ∧ v'.ownBlock = v.ownBlock
set_option linter.unusedSimpArgs false in
set_option maxRecDepth 100000 in
set_option maxHeartbeats 6400000 in
theorem pop_some (q : Nat) (v : Value) (room turns : Int) (h : List It) (w : World) (s : Qs w q v room turns h) (h0 : 0 < h.length) (hb : h.length ≤ 1000000) :
    Calls Tryz.prog 22 #[.pointer (some ⟨q, 0, none⟩)] w (PopP w q v room turns h) := by
  obtain ⟨g, cap, rest, rfl, m⟩ := s.toQm h0
  clear s
  have hql := m.hq.lt
  have hgl := m.hg.lt
  have hz : ((h.length : Int) == 0) = false := beq_eq_false_iff_ne.2 (by omega)
  have HP := hx (show PopP w q (.slice (some ⟨g, 0, none⟩) h.length cap) room turns h = fun e w' => e = .returned (.tuple #[.agg (dvl (at_ h 0).v).toArray, .int .i64 (at_ h 0).rank, .bool true]) ∧ ∃ v', Qs w' q v' room turns (takeL h 0) ∧ Kept (q :: (Value.slice (some ⟨g, 0, none⟩) h.length cap).ownBlock.toList) w w' ∧ v'.ownBlock = (Value.slice (some ⟨g, 0, none⟩) h.length cap).ownBlock from rfl)
  have HL := hx (And.intro h0 hb)
  go_enter Tryz.func22, Tryz.ntmps22
  go_upto_region 1 with fail
  generalize hw0 : World.alloc w _ = w0
  have hk0 : Kept [] w w0 := by rw [← hw0]; exact (Kept.refl _ _).alloc _
  have hb2 : Blk w0 w.heap.size (dvl dv0) 50 := by rw [← hw0]; exact Blk.new w (dvl dv0) _
  clear hw0
  have m0 := m.kept hk0
  have c2 : w0.cell? ⟨q, 2, none⟩ = some (.slice (some ⟨g, 0, none⟩) h.length cap) := m0.hq.cell (i := 2) rfl
  have HT := hx (take_any q g cap 0 0 room turns h rest w0 m0 HL.out.1 HL.out.2 rfl)
  have K0 := hx hk0
  have H2 := hx hb2
  have HLT := hx (And.intro hql hgl)
  clear m m0 hk0 hb2 h0 hb
  go_upto_region 4 with fail
  clear hz c2
  obtain ⟨y, hy⟩ : ∃ y, at_ h 0 = y := ⟨_, rfl⟩
  rw [hy] at HT HP
  go_upto_region 5 with (first
    | (go_at_call 45; refine HT.out.mono ?_; rintro e w1 ⟨rfl, m1, hk1⟩; have M1 := hx m1; have K1 := hx hk1; have HB1 := hx (hk1.blk H2.out (by have := HLT.out; simp; omega)); clear m1 hk1)
    | (refine store_blk rfl 110 (.tmp 6) (.tmp 15) rfl w1.heap.size rfl 110 _ (itc y) rfl (Blk.new w1 (itc it0) 110) rfl infoIt (itc_one _) ?_; intro w2 hb6 hk2; have B6 := hx hb6; have K2 := hx (((Kept.refl [] w1).alloc _).trans hk2 (ds := []) (fun _ h => h) (fun x h => by simp at h; subst h; exact .inr (Nat.le_refl _))); clear hb6 hk2))
  obtain ⟨b6, hb6⟩ : ∃ b6, w1.heap.size = b6 := ⟨_, rfl⟩
  have hlt1 := HB1.out.lt
  rw [hb6] at B6 hlt1
  have HNE := hx (show b6 ≠ w.heap.size by omega)
  rw [hb6]
  have HB2 := hx ((K2.out.blk HB1.out (by simp)).drew)
  have HSP := hx (show (fun w3 => w3.cell? ⟨b6, 0, none⟩ = some (.int .i64 y.rank) ∧ w3.rangeAt b6 2 (dvl y.v)) w2.drew from ⟨B6.out.drew.cell (i := 0) rfl, by have h := itc_rest B6.out.drew.range; rw [Nat.zero_add] at h; exact h.2⟩)
  have HSS := hx (fun (w3 : World) (hk : Kept [w.heap.size] w2.drew w3) => show (fun w3 => w3.cell? ⟨b6, 0, none⟩ = some (.int .i64 y.rank) ∧ w3.rangeAt b6 2 (dvl y.v)) w3 from (by
    have b := hk.blk B6.out.drew (by have := HNE.out; simp; omega)
    exact ⟨b.cell (i := 0) rfl, by have h := itc_rest b.range; rw [Nat.zero_add] at h; exact h.2⟩))
  clear hb6 hlt1 hql hgl
  refine wp_region_held_drew (S := (fun w3 => w3.cell? ⟨b6, 0, none⟩ = some (.int .i64 y.rank) ∧ w3.rangeAt b6 2 (dvl y.v))) (by kernel_rfl) (HSP.out) (fun hHeld => ?_)
  refine take_by 0 16 (v := ?_) rfl rfl (by kernel_rfl) (by kernel_rfl) (by kernel_rfl) (fun _ _ _ h => h) (Or.inl ⟨by rfl, ?_⟩) (by assumption) ?_
  rotate_left
  · (intro w hSw; (try dsimp only at hSw); go_simp; try with_reducible rfl)
  try simp only [List.setIfInBounds_toArray, List.set_cons_zero, List.set_cons_succ]
  refine take_by 1 17 (v := .agg (dvl y.v).toArray) rfl rfl (by kernel_rfl) (by kernel_rfl) (by kernel_rfl) (fun _ _ _ h => h) (yieldsIf_load_mid (by rfl) 50 (.tmp 16) rfl b6 (2) rfl (dvl y.v) _ (fun _ hS => hS.2) Tryz.underlying50 rfl (by kernel_rfl)) (by assumption) ?_
  try simp only [List.setIfInBounds_toArray, List.set_cons_zero, List.set_cons_succ]
  refine take_by 2 18 (v := ?_) rfl rfl (by kernel_rfl) (by kernel_rfl) (by kernel_rfl) (fun _ _ _ h => h) (Or.inl ⟨by rfl, ?_⟩) (by assumption) ?_
  rotate_left
  · (intro w hSw; (try dsimp only at hSw); go_simp; try with_reducible rfl)
  try simp only [List.setIfInBounds_toArray, List.set_cons_zero, List.set_cons_succ]
  refine take_by 3 19 (v := ?_) rfl rfl (by kernel_rfl) (by kernel_rfl) (by kernel_rfl) (fun _ _ _ h => h) (Or.inl ⟨by rfl, ?_⟩) (by assumption) ?_
  rotate_left
  · (intro w hSw; (try dsimp only at hSw); go_simp; try with_reducible rfl)
  try simp only [List.setIfInBounds_toArray, List.set_cons_zero, List.set_cons_succ]
  refine wpAnyH_ready (rs := [4]) (by kernel_rfl) (by simp) ?_
  refine AllReadyH.cons rfl (fun K hK => ?_) AllReadyH.nil
  refine step_storeB rfl 50 (.tmp 2) (.tmp 17) rfl w.heap.size rfl 50 (dvl dv0) (dvl y.v) rfl HB2.out rfl infoDg (dvl_one _) ?_
  intro w9 hb9 hk9
  have B9 := hx hb9
  have K9 := hx hk9
  clear hb9 hk9
  refine hK.out _ _ (HSS.out _ K9.out) (fun _ => ?_)
  clear hK K
  try simp only [Act.put, List.getElem_toArray, List.getElem_cons_succ, List.getElem_cons_zero, List.setIfInBounds_toArray, List.set_cons_zero, List.set_cons_succ]
  refine take_by 5 3 (v := ?_) rfl rfl (by kernel_rfl) (by kernel_rfl) (by kernel_rfl) (fun _ _ _ h => h) (Or.inl ⟨by rfl, ?_⟩) (by assumption) ?_
  rotate_left
  · (intro w hSw; (try dsimp only at hSw); go_simp; try with_reducible rfl)
  try simp only [List.setIfInBounds_toArray, List.set_cons_zero, List.set_cons_succ]
  refine take_by 6 4 (v := ?_) rfl rfl (by kernel_rfl) (by kernel_rfl) (by kernel_rfl) (fun _ _ _ h => h) (Or.inl ⟨by rfl, ?_⟩) (by assumption) ?_
  rotate_left
  · (intro w hSw; (try dsimp only at hSw); go_simp; try with_reducible rfl)
  try simp only [List.setIfInBounds_toArray, List.set_cons_zero, List.set_cons_succ]
  refine wpAnyH_done (by kernel_rfl) ?_ _
  go_wp2_with fail
  refine bodyPost_ret (ret_blk13 rfl _ w.heap.size _ _ _ _ _ rfl rfl rfl B9.out Tryz.underlying50 rfl infoDg) rfl ?_
  rw [HP.out]
  have hfin : Kept [w.heap.size] w1 w9 := (K2.out.drew.mono (by simp)).trans K9.out (fun _ h => h) (fun _ h => .inl h)
  refine ⟨rfl, _, (M1.out.frame hfin (by have := HLT.out; simp; omega) (by have := HLT.out; simp; omega)).toQs, ?_, rfl⟩
  exact ((K0.out.mono (cs := q :: [g]) (by simp)).trans K1.out (fun _ h => h) (fun x hx => .inl (by simpa using hx))).trans hfin (fun _ h => h) (fun x hx => by simp at hx; subst hx; exact .inr (Nat.le_refl _))
/-- What a peek tells. -/
def peekV : List It → Dv × Int × Bool
  | [] => (dv0, 0, false)
  | x :: _ => (x.v, x.rank, true)
set_option linter.unusedSimpArgs false in
set_option maxRecDepth 100000 in
set_option maxHeartbeats 6400000 in
theorem peek_any (q : Nat) (v : Value) (room turns : Int) (h : List It) (w : World) (s : Qs w q v room turns h) :
    Calls Tryz.prog 17 #[.pointer (some ⟨q, 0, none⟩)] w fun e w' => e = .returned (.tuple #[.agg (dvl (peekV h).1).toArray, .int .i64 (peekV h).2.1, .bool (peekV h).2.2]) ∧ Kept [] w w' := by
  have hql := s.hq.lt
  cases h with
  | nil =>
    have hv : ∃ a c, v = .slice a 0 c := by
      rcases s.own.2 with ⟨rfl, _⟩ | ⟨g, cap, cur, rfl, _⟩
      · exact ⟨_, _, rfl⟩
      · exact ⟨_, _, rfl⟩
    obtain ⟨a, c, rfl⟩ := hv
    have HS := hx s
    clear s
    go_enter Tryz.func17, Tryz.ntmps17
    go_upto_region 1 with fail
    generalize hw0 : World.alloc w _ = w0
    have hk0 : Kept [] w w0 := by rw [← hw0]; exact (Kept.refl _ _).alloc _
    have hb2 : Blk w0 w.heap.size (dvl dv0) 50 := by rw [← hw0]; exact Blk.new w (dvl dv0) _
    clear hw0
    have c2 := (hk0.blk HS.out.hq (by simp)).cell (i := 2) rfl
    have HZ8 := hx (Blk.new w0 (dvl dv0) 50)
    have HA4 := hx ((Kept.refl [] w0).alloc (.cells (dvl dv0).toArray 50))
    have H2 := hx hb2
    have K0 := hx hk0
    clear hb2 hk0
    go_wp2_with (first
      | (refine load_blk rfl 50 (.tmp 5) rfl w0.heap.size rfl 50 _ _ HZ8.out Tryz.underlying50 rfl infoDg ?_)
      | (refine store_blk rfl 50 (.tmp 2) (.tmp 12) rfl w.heap.size rfl 50 _ (dvl dv0) rfl (HA4.out.blk H2.out (by simp)) rfl infoDg (dvl_one _) ?_; intro w7 hb7 hk7; have HB7 := hx hb7; have HK7 := hx hk7; clear hb7 hk7))
    exact bodyPost_ret (ret_blk13 rfl _ w.heap.size _ _ _ _ _ rfl rfl rfl HB7.out Tryz.underlying50 rfl infoDg) rfl ⟨rfl, (K0.out.trans0 HA4.out).trans HK7.out (fun _ h => h) (fun x hx => by simp at hx; subst hx; exact .inr (Nat.le_refl _))⟩
  | cons y h =>
    obtain ⟨g, cap, rest, rfl, m⟩ := s.toQm (by simp)
    have hgl := m.hg.lt
    have hl : (0 : Int) < (((y :: h).length : Nat) : Int) := by simp <;> omega
    have hne : ((((y :: h).length : Nat) : Int) == 0) = false := by simp; omega
    have M := hx m
    have hn0 : 0 < (y :: h).length := by simp
    obtain ⟨N, hN⟩ : ∃ N, (y :: h).length = N := ⟨_, rfl⟩
    have hS0 : ∀ (bs : List Nat) (w3 : World), Kept bs w w3 → q ∉ bs → g ∉ bs → (fun w3 => w3.cell? ⟨q, 2, none⟩ = some (.slice (some ⟨g, 0, none⟩) N cap) ∧ w3.cell? ⟨g, 0, none⟩ = some (.int .i64 y.rank) ∧ w3.rangeAt g 2 (dvl y.v)) w3 := fun bs w3 hk h1 h2 => by
      have m3 := m.frame hk h1 h2
      have hr := itc_rest (m3.at 0 hn0)
      rw [Nat.zero_mul, Nat.zero_add] at hr
      have hq := m3.hq.cell (i := 2) rfl
      rw [hN] at hq
      exact ⟨hq, hr.1, hr.2⟩
    have HS0 := hx hS0
    have HLT := hx (And.intro hql hgl)
    rw [hN] at hl hne
    have hnn : 0 < N := by omega
    have hcq := m.hq
    rw [hN] at hcq
    have HCQ := hx hcq
    clear s m M hS0 hn0 hN hcq
    go_enter Tryz.func17, Tryz.ntmps17
    go_upto_region 1 with fail
    generalize hw0 : World.alloc w _ = w0
    have hk0 : Kept [] w w0 := by rw [← hw0]; exact (Kept.refl _ _).alloc _
    have hb2 : Blk w0 w.heap.size (dvl dv0) 50 := by rw [← hw0]; exact Blk.new w (dvl dv0) _
    clear hw0
    have c2 := (hk0.blk HCQ.out (by simp)).cell (i := 2) rfl
    have HB2 := hx hb2.drew
    have K0 := hx hk0
    clear hb2 hk0
    go_upto_region 4 with fail
    have HSP := hx (HS0.out [] w0.drew K0.out.drew (by simp) (by simp))
    have HSS := hx (fun (w3 : World) (hk : Kept [w.heap.size] w0.drew w3) => HS0.out [w.heap.size] w3 ((K0.out.drew.mono (by simp)).trans hk (fun _ h => h) (fun _ h => .inl h)) (by have := HLT.out; simp; omega) (by have := HLT.out; simp; omega))
    clear c2
    refine wp_region_held_drew (S := (fun w3 => w3.cell? ⟨q, 2, none⟩ = some (.slice (some ⟨g, 0, none⟩) N cap) ∧ w3.cell? ⟨g, 0, none⟩ = some (.int .i64 y.rank) ∧ w3.rangeAt g 2 (dvl y.v))) (by kernel_rfl) (HSP.out) (fun hHeld => ?_)
    refine take_by 0 13 (v := ?_) rfl rfl (by kernel_rfl) (by kernel_rfl) (by kernel_rfl) (fun _ _ _ h => h) (Or.inl ⟨by rfl, ?_⟩) (by assumption) ?_
    rotate_left
    · (intro w hSw; (try dsimp only at hSw); go_simp; try with_reducible rfl)
    try simp only [List.setIfInBounds_toArray, List.set_cons_zero, List.set_cons_succ]
    refine take_by 1 14 (v := ?_) rfl rfl (by kernel_rfl) (by kernel_rfl) (by kernel_rfl) (fun _ _ _ h => h) (Or.inl ⟨by rfl, ?_⟩) (by assumption) ?_
    rotate_left
    · (intro w hSw; (try dsimp only at hSw); go_simp; try with_reducible rfl)
    try simp only [List.setIfInBounds_toArray, List.set_cons_zero, List.set_cons_succ]
    refine take_by 2 15 (v := ?_) rfl rfl (by kernel_rfl) (by kernel_rfl) (by kernel_rfl) (fun _ _ _ h => h) (Or.inl ⟨by rfl, ?_⟩) (by assumption) ?_
    rotate_left
    · (intro w hSw; (try dsimp only at hSw); go_simp; try with_reducible rfl)
    try simp only [List.setIfInBounds_toArray, List.set_cons_zero, List.set_cons_succ]
    refine take_by 3 16 (v := ?_) rfl rfl (by kernel_rfl) (by kernel_rfl) (by kernel_rfl) (fun _ _ _ h => h) (Or.inl ⟨by rfl, ?_⟩) (by assumption) ?_
    rotate_left
    · (intro w hSw; (try dsimp only at hSw); go_simp; try with_reducible rfl)
    try simp only [List.setIfInBounds_toArray, List.set_cons_zero, List.set_cons_succ]
    refine take_by 4 17 (v := ?_) rfl rfl (by kernel_rfl) (by kernel_rfl) (by kernel_rfl) (fun _ _ _ h => h) (Or.inl ⟨by rfl, ?_⟩) (by assumption) ?_
    rotate_left
    · (intro w hSw; (try dsimp only at hSw); go_simp; try with_reducible rfl)
    try simp only [List.setIfInBounds_toArray, List.set_cons_zero, List.set_cons_succ]
    refine take_by 5 18 (v := ?_) rfl rfl (by kernel_rfl) (by kernel_rfl) (by kernel_rfl) (fun _ _ _ h => h) (Or.inl ⟨by rfl, ?_⟩) (by assumption) ?_
    rotate_left
    · (intro w hSw; (try dsimp only at hSw); go_simp; try with_reducible rfl)
    try simp only [List.setIfInBounds_toArray, List.set_cons_zero, List.set_cons_succ]
    refine take_by 6 19 (v := .agg (dvl y.v).toArray) rfl rfl (by kernel_rfl) (by kernel_rfl) (by kernel_rfl) (fun _ _ _ h => h) (yieldsIf_load_mid (by rfl) 50 (.tmp 18) rfl g (2) rfl (dvl y.v) _ (fun _ hS => hS.2.2) Tryz.underlying50 rfl (by kernel_rfl)) (by assumption) ?_
    try simp only [List.setIfInBounds_toArray, List.set_cons_zero, List.set_cons_succ]
    refine take_by 7 20 (v := ?_) rfl rfl (by kernel_rfl) (by kernel_rfl) (by kernel_rfl) (fun _ _ _ h => h) (Or.inl ⟨by rfl, ?_⟩) (by assumption) ?_
    rotate_left
    · (intro w hSw; (try dsimp only at hSw); go_simp; try with_reducible rfl)
    try simp only [List.setIfInBounds_toArray, List.set_cons_zero, List.set_cons_succ]
    refine take_by 8 21 (v := ?_) rfl rfl (by kernel_rfl) (by kernel_rfl) (by kernel_rfl) (fun _ _ _ h => h) (Or.inl ⟨by rfl, ?_⟩) (by assumption) ?_
    rotate_left
    · (intro w hSw; (try dsimp only at hSw); go_simp; try with_reducible rfl)
    try simp only [List.setIfInBounds_toArray, List.set_cons_zero, List.set_cons_succ]
    refine take_by 9 22 (v := ?_) rfl rfl (by kernel_rfl) (by kernel_rfl) (by kernel_rfl) (fun _ _ _ h => h) (Or.inl ⟨by rfl, ?_⟩) (by assumption) ?_
    rotate_left
    · (intro w hSw; (try dsimp only at hSw); go_simp; try with_reducible rfl)
    try simp only [List.setIfInBounds_toArray, List.set_cons_zero, List.set_cons_succ]
    refine take_by 10 23 (v := ?_) rfl rfl (by kernel_rfl) (by kernel_rfl) (by kernel_rfl) (fun _ _ _ h => h) (Or.inl ⟨by rfl, ?_⟩) (by assumption) ?_
    rotate_left
    · (intro w hSw; (try dsimp only at hSw); go_simp; try with_reducible rfl)
    try simp only [List.setIfInBounds_toArray, List.set_cons_zero, List.set_cons_succ]
    refine take_by 11 24 (v := ?_) rfl rfl (by kernel_rfl) (by kernel_rfl) (by kernel_rfl) (fun _ _ _ h => h) (Or.inl ⟨by rfl, ?_⟩) (by assumption) ?_
    rotate_left
    · (intro w hSw; (try dsimp only at hSw); go_simp; try with_reducible rfl)
    try simp only [List.setIfInBounds_toArray, List.set_cons_zero, List.set_cons_succ]
    refine take_by 12 25 (v := ?_) rfl rfl (by kernel_rfl) (by kernel_rfl) (by kernel_rfl) (fun _ _ _ h => h) (Or.inl ⟨by rfl, ?_⟩) (by assumption) ?_
    rotate_left
    · (intro w hSw; (try dsimp only at hSw); go_simp; try with_reducible rfl)
    try simp only [List.setIfInBounds_toArray, List.set_cons_zero, List.set_cons_succ]
    refine take_by 13 26 (v := ?_) rfl rfl (by kernel_rfl) (by kernel_rfl) (by kernel_rfl) (fun _ _ _ h => h) (Or.inl ⟨by rfl, ?_⟩) (by assumption) ?_
    rotate_left
    · (intro w hSw; (try dsimp only at hSw); go_simp; try with_reducible rfl)
    try simp only [List.setIfInBounds_toArray, List.set_cons_zero, List.set_cons_succ]
    refine wpAnyH_ready (rs := [14]) (by kernel_rfl) (by simp) ?_
    refine AllReadyH.cons rfl (fun K hK => ?_) AllReadyH.nil
    refine step_storeB rfl 50 (.tmp 2) (.tmp 19) rfl w.heap.size rfl 50 (dvl dv0) (dvl y.v) rfl HB2.out rfl infoDg (dvl_one _) ?_
    intro w9 hb9 hk9
    have B9 := hx hb9
    have K9 := hx hk9
    clear hb9 hk9
    refine hK.out _ _ (HSS.out _ K9.out) (fun _ => ?_)
    clear hK K
    try simp only [Act.put, List.getElem_toArray, List.getElem_cons_succ, List.getElem_cons_zero, List.setIfInBounds_toArray, List.set_cons_zero, List.set_cons_succ]
    refine take_by 15 3 (v := ?_) rfl rfl (by kernel_rfl) (by kernel_rfl) (by kernel_rfl) (fun _ _ _ h => h) (Or.inl ⟨by rfl, ?_⟩) (by assumption) ?_
    rotate_left
    · (intro w hSw; (try dsimp only at hSw); go_simp; try with_reducible rfl)
    try simp only [List.setIfInBounds_toArray, List.set_cons_zero, List.set_cons_succ]
    refine take_by 16 4 (v := ?_) rfl rfl (by kernel_rfl) (by kernel_rfl) (by kernel_rfl) (fun _ _ _ h => h) (Or.inl ⟨by rfl, ?_⟩) (by assumption) ?_
    rotate_left
    · (intro w hSw; (try dsimp only at hSw); go_simp; try with_reducible rfl)
    try simp only [List.setIfInBounds_toArray, List.set_cons_zero, List.set_cons_succ]
    refine wpAnyH_done (by kernel_rfl) ?_ _
    go_wp2_with fail
    exact bodyPost_ret (ret_blk13 rfl _ w.heap.size _ _ _ _ _ rfl rfl rfl B9.out Tryz.underlying50 rfl infoDg) rfl ⟨rfl, K0.out.drew.trans K9.out (fun _ h => h) (fun x hx => by simp at hx; subst hx; exact .inr (Nat.le_refl _))⟩
end Go.Proofs.YtgdofgckjkmhjaaGreat.Qd
namespace Go.Proofs.YtgdofgckjkmhjaaGreat.Mp
open Go Go.RowKit
structure Ms where
  p0 : Pa
  p1 : Pa
  rt : Nat
  burst : Int
  held : Int
  spent : Int
  full : Int
  room : Int
  turns : Int
  s : List Qd.It
  sess : Nat
  now : Nat
  drop : Int
  hold : Int
def sdc (m : Ms) (b q : Nat) : List Value := pac m.p0 ++ pac m.p1 ++ [.pointer (some ⟨b, 0, none⟩), .pointer (some ⟨q, 0, none⟩), .int .u32 m.sess, .int .u32 m.now, .int .i64 m.drop, .int .i64 m.hold]
def Ms.way (m : Ms) (i : Nat) : Pa := if i = 0 then m.p0 else m.p1
def Ms.setW (m : Ms) (i : Nat) (p : Pa) : Ms := if i = 0 then { m with p0 := p } else { m with p1 := p }
theorem two {i : Nat} (h : i < 2) : i = 0 ∨ i = 1 := by omega
theorem part_way (m : Ms) (b q : Nat) {i : Nat} (hi : i < 2) : Part (sdc m b q) (i * 15) (pac (m.way i)) := by
  rcases two hi with rfl | rfl
  · exact Part.sub (xs := sdc m b q) (o := 0) (ys := []) (bs := pac m.p0) (cs := pac m.p1 ++ [.pointer (some ⟨b, 0, none⟩), .pointer (some ⟨q, 0, none⟩), .int .u32 m.sess, .int .u32 m.now, .int .i64 m.drop, .int .i64 m.hold]) (Part.all _)
  · exact Part.sub (xs := sdc m b q) (o := 0) (ys := pac m.p0) (bs := pac m.p1) (cs := [.pointer (some ⟨b, 0, none⟩), .pointer (some ⟨q, 0, none⟩), .int .u32 m.sess, .int .u32 m.now, .int .i64 m.drop, .int .i64 m.hold]) (Part.all _)
theorem set_way (m : Ms) (b q : Nat) {i : Nat} (hi : i < 2) (p : Pa) : setAll (sdc m b q) (i * 15) (pac p) = sdc (m.setW i p) b q := by
  have hl : ∀ p1 p2 : Pa, (pac p1).length = (pac p2).length := fun _ _ => rfl
  rcases two hi with rfl | rfl
  · have h := setAll_sub (xs := sdc m b q) (o := 0) (ys := []) (bs := pac m.p0) (bs' := pac p) (cs := pac m.p1 ++ [.pointer (some ⟨b, 0, none⟩), .pointer (some ⟨q, 0, none⟩), .int .u32 m.sess, .int .u32 m.now, .int .i64 m.drop, .int .i64 m.hold]) (Part.all _) (hl _ _)
    refine Eq.trans h ?_
    rw [setAll_all _ _ (by simp only [sdc, List.length_append, List.length_cons, List.length_nil, pac_len])]
    simp only [sdc, Ms.setW, if_pos, List.nil_append, List.append_assoc]
  · have h := setAll_sub (xs := sdc m b q) (o := 0) (ys := pac m.p0) (bs := pac m.p1) (bs' := pac p) (cs := [.pointer (some ⟨b, 0, none⟩), .pointer (some ⟨q, 0, none⟩), .int .u32 m.sess, .int .u32 m.now, .int .i64 m.drop, .int .i64 m.hold]) (Part.all _) (hl _ _)
    refine Eq.trans h ?_
    rw [setAll_all _ _ (by simp only [sdc, List.length_append, List.length_cons, List.length_nil, pac_len])]
    rfl
/-- Where a datagram's data lie: in none of these blocks. -/
structure Bd (w : World) (bad : List Nat) (x : Qd.Dv) : Prop where
  bts : Bts w x.p x.d.data.length x.c x.d.data
  ne : ∀ g o, x.p = some (⟨g, o, none⟩ : Addr) → x.d.data ≠ [] → g ∉ bad
theorem Bts.but {w w' : World} {bs : List Nat} {a : Option Addr} {n c : Nat} {l : List UInt8} (h : Bts w a n c l) (hk : Kept bs w w') (hn : ∀ g o, a = some (⟨g, o, none⟩ : Addr) → l ≠ [] → g ∉ bs) : Bts w' a n c l :=
  ⟨h.hlen, h.hle, h.htop, h.hnil, fun i hi => by
    obtain ⟨b, off, h1, h2⟩ := h.hcell i hi
    refine ⟨b, off, h1, ?_⟩
    rw [hk.cell (p := ⟨b, off + i, none⟩) (block_lt_of_cell h2) (hn b off h1 (fun e => by rw [e] at hi; simp at hi))]
    exact h2⟩
theorem Bd.lt {w : World} {bad : List Nat} {x : Qd.Dv} (h : Bd w bad x) {g o : Nat} (hp : x.p = some (⟨g, o, none⟩ : Addr)) (hd : x.d.data ≠ []) : g < w.heap.size := by
  obtain ⟨b, off, h1, h2⟩ := h.bts.hcell 0 (by cases hq : x.d.data with | nil => exact absurd hq hd | cons _ _ => simp)
  rw [hp] at h1
  simp only [Option.some.injEq, Addr.mk.injEq, and_true] at h1
  obtain ⟨rfl, rfl⟩ := h1
  exact block_lt_of_cell h2
/-- What is written leaves the data; other blocks are the own ones then. -/
theorem Bd.next {w w' : World} {bad bad2 bs : List Nat} {x : Qd.Dv} (h : Bd w bad x) (hk : Kept bs w w') (h1 : ∀ g, g ∈ bs → g ∈ bad ∨ w.heap.size ≤ g) (h2 : ∀ g, g ∈ bad2 → g ∈ bad ∨ w.heap.size ≤ g) : Bd w' bad2 x :=
  ⟨Bts.but h.bts hk fun g o hp hd hg => by
    rcases h1 g hg with h3 | h3
    · exact h.ne g o hp hd h3
    · have := h.lt hp hd; omega, fun g o hp hd hg => by
    rcases h2 g hg with h3 | h3
    · exact h.ne g o hp hd h3
    · have := h.lt hp hd; omega⟩
/-- The blocks that are the sender's. -/
def own (s b q : Nat) (v : Value) : List Nat := s :: b :: q :: v.ownBlock.toList
structure Sr (w : World) (s b q : Nat) (v : Value) (m : Ms) : Prop where
  hs : Blk w s (sdc m b q) 74
  hb : Blk w b (bkc m.rt m.burst m.held m.spent m.full) 105
  hq : ∃ h, Qd.Qs w q v m.room m.turns h ∧ Qd.Rp h m.turns m.s
  dat : ∀ x, x ∈ m.s → Bd w (own s b q v) x.v
theorem blk_ne {w : World} {a b : Nat} {xs ys : List Value} {T U : TypeId} (h : Blk w a xs T) (g : Blk w b ys U) (hT : T ≠ U) : a ≠ b := by
  rintro rfl
  unfold Blk at h g
  rw [h] at g
  simp only [Option.some.injEq, Obj.cells.injEq] at g
  exact hT g.2.1
theorem own_ne {w : World} {base size b : Nat} {e T : TypeId} {v : Value} {n : Nat} {xs ys : List Value} (h : w.ownsRow base e size v n xs) (hb : Blk w b ys T) (hT : T ≠ e) : v.ownBlock ≠ some b := by
  rcases h.2 with ⟨rfl, rfl⟩ | ⟨g, cap, cur, rfl, _, hg, _⟩
  · simp [Value.ownBlock]
  · intro e1
    simp only [Value.ownBlock, Option.some.injEq] at e1
    subst e1
    unfold Blk at hb
    rw [hg] at hb
    simp only [Option.some.injEq, Obj.cells.injEq] at hb
    exact hT hb.2.1.symm
structure Ne (s b q : Nat) (v : Value) : Prop where
  sb : s ≠ b
  sq : s ≠ q
  bq : b ≠ q
  vs : v.ownBlock ≠ some s
  vb : v.ownBlock ≠ some b
  vq : v.ownBlock ≠ some q
theorem Sr.ne {w : World} {s b q : Nat} {v : Value} {m : Ms} (r : Sr w s b q v m) : Ne s b q v := by
  obtain ⟨h, hq, _⟩ := r.hq
  exact ⟨blk_ne r.hs r.hb (by decide), blk_ne r.hs hq.hq (by decide), blk_ne r.hb hq.hq (by decide), own_ne hq.own r.hs (by decide), own_ne hq.own r.hb (by decide), hq.ne⟩
theorem qs_kept {w w' : World} {q : Nat} {v : Value} {room turns : Int} {h : List Qd.It} {bs : List Nat} (s : Qd.Qs w q v room turns h) (hk : Kept bs w w') (h1 : q ∉ bs) (h2 : ∀ g, v.ownBlock = some g → g ∉ bs) : Qd.Qs w' q v room turns h :=
  ⟨hk.blk s.hq h1, Qd.own_kept3 s.own (fun g cs hv hg => hk.block g (Array.getElem?_eq_some_iff.1 hg).1 (h2 g hv)), s.ne⟩
theorem Sr.kept {w w' : World} {s b q : Nat} {v : Value} {m : Ms} (r : Sr w s b q v m) (hk : Kept [] w w') : Sr w' s b q v m := by
  obtain ⟨h, hq, hr⟩ := r.hq
  exact ⟨hk.blk r.hs (by simp), hk.blk r.hb (by simp), ⟨h, qs_kept hq hk (by simp) (by simp), hr⟩, fun x hx => (r.dat x hx).next hk (by simp) (fun g hg => .inl hg)⟩
/-- The sender's own cells change. -/
theorem Sr.cells {w w' : World} {s b q : Nat} {v : Value} {m m' : Ms} (r : Sr w s b q v m) (hk : Kept [s] w w') (hb : Blk w' s (sdc m' b q) 74)
    (h1 : m'.rt = m.rt ∧ m'.burst = m.burst ∧ m'.held = m.held ∧ m'.spent = m.spent ∧ m'.full = m.full ∧ m'.room = m.room ∧ m'.turns = m.turns ∧ m'.s = m.s) : Sr w' s b q v m' := by
  obtain ⟨h, hq, hr⟩ := r.hq
  have n := r.ne
  obtain ⟨e1, e2, e3, e4, e5, e6, e7, e8⟩ := h1
  refine ⟨hb, ?_, ⟨h, ?_, ?_⟩, ?_⟩
  · rw [e1, e2, e3, e4, e5]
    exact hk.blk r.hb (by have := n.sb; simp; omega)
  · rw [e6, e7]
    exact qs_kept hq hk (by have := n.sq; simp; omega) (fun g hg => by have := n.vs; rw [hg] at this; simpa using this)
  · rw [e7, e8]
    exact hr
  · intro x hx
    rw [e8] at hx
    exact (r.dat x hx).next hk (fun g hg => .inl (by simp at hg; subst hg; simp [own])) (fun g hg => .inl hg)
theorem setW_same (m : Ms) (i : Nat) (p : Pa) : (m.setW i p).rt = m.rt ∧ (m.setW i p).burst = m.burst ∧ (m.setW i p).held = m.held ∧ (m.setW i p).spent = m.spent ∧ (m.setW i p).full = m.full ∧ (m.setW i p).room = m.room ∧ (m.setW i p).turns = m.turns ∧ (m.setW i p).s = m.s := by
  unfold Ms.setW
  split <;> exact ⟨rfl, rfl, rfl, rfl, rfl, rfl, rfl, rfl⟩
theorem Sr.way {w w' : World} {s b q : Nat} {v : Value} {m : Ms} (r : Sr w s b q v m) {i : Nat} (hi : i < 2) (p : Pa) (hk : Kept [s] w w') (hb : Blk w' s (setAll (sdc m b q) (i * 15) (pac p)) 74) : Sr w' s b q v (m.setW i p) :=
  r.cells hk (by rw [← set_way m b q hi p]; exact hb) (setW_same m i p)
/-- The bucket's cells change. -/
theorem Sr.bucket {w w' : World} {s b q : Nat} {v : Value} {m : Ms} (r : Sr w s b q v m) (held spent full : Int) (hk : Kept [b] w w') (hb : Blk w' b (bkc m.rt m.burst held spent full) 105) : Sr w' s b q v { m with held := held, spent := spent, full := full } := by
  obtain ⟨h, hq, hr⟩ := r.hq
  have n := r.ne
  exact ⟨hk.blk r.hs (by have := n.sb; simp; omega), hb, ⟨h, qs_kept hq hk (by have := n.bq; simp; omega) (fun g hg => by have := n.vb; rw [hg] at this; simpa using this), hr⟩,
    fun x hx => (r.dat x hx).next hk (fun g hg => .inl (by simp at hg; subst hg; simp [own])) (fun g hg => .inl hg)⟩
/-- Bounds of its numbers. -/
structure Ok (m : Ms) (k t : Int) : Prop where
  p0 : PaOk m.p0 k t
  p1 : PaOk m.p1 k t
  rt : 1 ≤ m.rt ∧ m.rt ≤ 1048576
  burst : 1 ≤ m.burst ∧ m.burst ≤ 16777216
  held : 0 ≤ m.held ∧ m.held ≤ m.burst
  spent : Fits m.spent
  full : Fits m.full
  room : 1 ≤ m.room ∧ m.room ≤ 256
  turns : 0 ≤ m.turns ∧ m.turns ≤ k
  len : (m.s.length : Int) ≤ m.room
  sess : m.sess < 4294967296
  now : m.now < 4294967296
  drop : 0 ≤ m.drop ∧ m.drop ≤ k
  hold : 0 ≤ m.hold ∧ m.hold ≤ t
  its : ∀ x, x ∈ m.s → chk x.v.d = 0 ∧ x.v.d.data.length ≤ 1200 ∧ x.v.d.sess = m.sess ∧ x.v.d.path = 0
theorem Ok.way {m : Ms} {k t : Int} (o : Ok m k t) (i : Nat) : PaOk (m.way i) k t := by
  unfold Ms.way
  split
  · exact o.p0
  · exact o.p1
/-- The better way first. -/
def ordM (m : Ms) : List Nat := if keyI m.p1 < keyI m.p0 then [1, 0] else [0, 1]
theorem srt_ord (m : Ms) (l : List Nat) (h : Srt (keyF [m.p0, m.p1]) 2 l) : l = ordM m := by
  refine h.eq ?_
  have k0 : keyF [m.p0, m.p1] 0 = keyI m.p0 := rfl
  have k1 : keyF [m.p0, m.p1] 1 = keyI m.p1 := rfl
  unfold ordM
  split
  · rename_i hlt
    refine ⟨?_, fun x => by simp; omega⟩
    rw [List.pairwise_cons]
    refine ⟨fun x hx => ?_, by simp⟩
    simp only [List.mem_cons, List.not_mem_nil, or_false] at hx
    subst hx
    exact .inl (by rw [k0, k1]; exact hlt)
  · rename_i hlt
    refine ⟨?_, fun x => by simp; omega⟩
    rw [List.pairwise_cons]
    refine ⟨fun x hx => ?_, by simp⟩
    simp only [List.mem_cons, List.not_mem_nil, or_false] at hx
    subst hx
    unfold lex
    rw [k0, k1]
    omega
theorem Sr.ways {w : World} {s b q : Nat} {v : Value} {m : Ms} (r : Sr w s b q v m) {k t : Int} (o : Ok m k t) (hk : 65 * k ≤ 1000000) : Ways w 2 s (sdc m b q) 74 [m.p0, m.p1] :=
  ⟨r.hs, fun i hi => by
    have h := part_way m b q hi
    rcases two hi with rfl | rfl
    · exact h
    · exact h, fun i hi => by
    rcases two hi with rfl | rfl
    · exact o.p0.s.mono hk
    · exact o.p1.s.mono hk⟩
end Go.Proofs.YtgdofgckjkmhjaaGreat.Mp
namespace Go.Proofs.YtgdofgckjkmhjaaGreat.Mp
open Go Go.RowKit
theorem own_le {w : World} {base b2 size n : Nat} {e : TypeId} {v : Value} {xs : List Value} (h : w.ownsRow base e size v n xs) (hb : b2 ≤ base) : w.ownsRow b2 e size v n xs := by
  refine ⟨h.1, ?_⟩
  rcases h.2 with hn | ⟨g, cap, cur, rfl, hg, rest⟩
  · exact .inl hn
  · exact .inr ⟨g, cap, cur, rfl, by omega, rest⟩
def ptrs (s i : Nat) : List Value := tab i fun k => .pointer (some ⟨s, k * 15, none⟩)
theorem ptrs_succ (s i : Nat) : ptrs s (i + 1) = ptrs s i ++ [.pointer (some ⟨s, i * 15, none⟩)] := by
  unfold ptrs tab
  rw [List.range_succ, List.map_append]
  rfl
theorem infoPtr : (Tryz.prog.info? 114).map (fun i => (i.zero, i.size, i.bytes)) = some (some (.pointer none), 1, 8) := by kernel_rfl
theorem one_ptr (s i : Nat) : ∀ u ∈ [Value.pointer (some ⟨s, i * 15, none⟩)], u.oneCell' = true := by
  intro u hu
  simp only [List.mem_cons, List.not_mem_nil, or_false] at hu
  subst hu
  rfl
theorem newsP {w : World} {g : Nat} {xs : List Value} {T : TypeId} (h : Blk w g xs T) : ∀ ad, some (⟨g, 0, none⟩ : Addr) = some ad → ∀ j u, xs[j]? = some u → w.cell? (ad.add j) = some u := by
  intro ad he j u hj
  simp only [Option.some.injEq] at he
  subst he
  rw [Addr.add_mid, Nat.zero_add]
  exact h.cell hj
theorem own_ptrs {w : World} {base s : Nat} {T : TypeId} {v : Value} (h : w.ownsRow base T 1 v 2 (ptrs s 2)) : ∃ a c, v = .slice a 2 c ∧ Ptrs w a 2 s := by
  rcases h.2 with ⟨_, hn⟩ | ⟨g, cap, cur, rfl, _, hg, hn, hc, hs, ht⟩
  · omega
  · refine ⟨_, _, rfl, fun i hi => ⟨g, rfl, ?_⟩⟩
    have hB : Blk w g cur.toList T := hg
    refine hB.cell ?_
    have h2 : (cur.toList.take (2 * 1))[i]? = (ptrs s 2)[i]? := by rw [ht]
    rw [List.getElem?_take_of_lt (by omega)] at h2
    rw [h2]
    unfold ptrs
    rw [tab_get hi]
set_option maxRecDepth 100000 in
set_option maxHeartbeats 3200000 in
theorem order_m (s b q : Nat) (v : Value) (m : Ms) (k t : Int) (w : World) (r : Sr w s b q v m) (o : Ok m k t) (hk : 65 * k ≤ 1000000) :
    Calls Tryz.prog 47 #[.pointer (some ⟨s, 0, none⟩)] w fun e w' => ∃ u, e = .returned u ∧ w'.ownsRow w.heap.size 3 1 u 2 (ints (ordM m)) ∧ Kept [] w w' := by
  have HO := hx (fun (W : World) (a : Option Addr) (c : Nat) (hk2 : Kept [] w W) (hp : Ptrs W a 2 s) => order_any a 2 c s _ _ _ W hp ((r.ways o hk).kept hk2) (by omega))
  go_enter Tryz.func47, Tryz.ntmps47
  go_wp2
  go_loopw [5, 3] (fun s5 s3 wr => ∃ i : Nat, s5 = .int .i64 (i : Int) ∧ i ≤ 2 ∧ wr.ownsRow w.heap.size 114 1 s3 i (ptrs s i) ∧ Hx (Kept [] w wr)) (fun s5 _ _ => 2 - (intOf s5).toNat)
  case atStart => exact ⟨0, rfl, by omega, World.ownsRow_nil _ _ _ _, hx (Kept.refl _ _)⟩
  case round =>
    obtain ⟨i, rfl, hi, hown, HK⟩ := hrel
    by_cases hlt : i < 2
    · have hl : (i : Int) < 2 := by omega
      have OWN := hx hown
      have HB := hx (Blk.new wr [.pointer (some ⟨s, i * 15, none⟩)] 114)
      have HA := hx ((Kept.refl [] wr).alloc (.cells #[.pointer (some ⟨s, i * 15, none⟩)] 114))
      have HLT := hx hlt
      clear hown hi
      go_wp2_with (refine wpList_app rfl (.tmp 8) (.tmp 14) 138 rfl w.heap.size 114 (.pointer none) 1 8 infoPtr Tryz.underlying138 rfl (by omega) _ i (ptrs s i) rfl (Qd.own_kept3 OWN.out (fun g cs _ hg => HA.out.block g (Array.getElem?_eq_some_iff.1 hg).1 (by simp))) (some ⟨wr.heap.size, 0, none⟩) 1 1 [.pointer (some ⟨s, i * 15, none⟩)] rfl rfl (by simp) (by omega) (newsP HB.out) (one_ptr s i) (by unfold maxLen; omega) (by omega) (Nat.le_trans HK.out.size HA.out.size) ?_; intro v5 w5 ho5 hg5; have HO5 := hx ho5; have HG5 := hx hg5; clear ho5 hg5)
      go_roundw
      case rel => exact ⟨i + 1, by push_cast; rfl, by have := HLT.out; omega, by rw [ptrs_succ]; exact HO5.out, hx ((HK.out.trans0 HA.out).grown HG5.out (fun g hg => .inr (OWN.out.lt g hg).1))⟩
      case measure =>
        simp only [intOf]
        have := HLT.out
        omega
    · obtain rfl : i = 2 := by omega
      obtain ⟨a, c, rfl, hp⟩ := own_ptrs hown
      have HP := hx hp
      have HC := hx (HO.out wr a c HK.out hp)
      clear hown hp HO hi hlt
      go_wp2_with (go_at_call 76; refine HC.out.mono ?_; rintro e w6 ⟨u, l, rfl, hs, ho, hk6⟩; have HS := hx hs; have HO6 := hx ho; have HK6 := hx hk6; clear hs ho hk6)
      go_ret
      refine ⟨_, rfl, ?_, HK.out.trans0 HK6.out⟩
      rw [← srt_ord m l HS.out]
      exact own_le HO6.out HK.out.size
end Go.Proofs.YtgdofgckjkmhjaaGreat.Mp
namespace Go.Proofs.YtgdofgckjkmhjaaGreat.Mp
open Go Go.RowKit
open Qd (dvl dv0 take_by dvl_one infoDg step_of)
abbrev snt (i : Int) (x : Qd.Dv) : List Value := .int .i64 i :: dvl x
theorem infoSn : (Tryz.prog.info? 85).map (·.size) = some 12 := by kernel_rfl
theorem snt_one (i : Int) (x : Qd.Dv) : ∀ u ∈ snt i x, u.oneCell' = true := by
  intro u hu
  simp only [snt, List.mem_cons] at hu
  rcases hu with rfl | hu
  · rfl
  · exact dvl_one x u (by simpa using hu)
theorem builtSn (i : Int) (x : Qd.Dv) : Tryz.prog.built 85 [(0, .int .i64 i), (1, .agg (dvl x).toArray)] = some (snt i x).toArray := by kernel_rfl
theorem wpList_built {P : Program} {w : World} {ops : Array Oper} {rest : List Oper} {o : Oper} {a : Act} {Q : Exit → Act → World → Prop} (hgd : o.guard = none) (t : TypeId) (parts : Array (Nat × Operand)) (ho : o.op = .build t parts) (cells : Array Value) (l : List (Nat × Value)) (hl : (parts.map fun (i, x) => (i, a.eval x)).toList = l)
    (hf : P.built t l = some cells) (h : wpList P ops Q rest (a.put o.dst (.agg cells)) w) : wpList P ops Q (o :: rest) a w := by
  subst hl
  refine wpList_plain hgd fun K hK => wp_build t parts ho (by rw [hf]; rfl) ?_
  rw [hf]
  exact hK _ _ h
theorem nowC (m : Ms) (b q : Nat) : (sdc m b q)[33]? = some (.int .u32 m.now) := rfl
theorem setW_now (m : Ms) (i : Nat) (p : Pa) : (m.setW i p).now = m.now := by unfold Ms.setW; split <;> rfl
theorem nowW (m : Ms) (i : Nat) (p : Pa) (b q : Nat) : (sdc (m.setW i p) b q)[33]? = some (.int .u32 m.now) := by
  have h := nowC (m.setW i p) b q
  rw [setW_now] at h
  exact h
/-- A datagram, as it goes by a way. -/
def stD (m : Ms) (i : Nat) (d : Qd.Dv) : Qd.Dv := { d with d := { d.d with path := (i : Int), tick := m.now, seq := (m.way i).next } }
/-- The sender then. -/
def stM (m : Ms) (i : Nat) : Ms := m.setW i { m.way i with next := nextU (m.way i).next }
theorem Sr.but {w w' : World} {s b q : Nat} {v : Value} {m : Ms} {bs : List Nat} (r : Sr w s b q v m) (hk : Kept bs w w') (h : ∀ g, g ∈ bs → g ∉ own s b q v) (hd : ∀ x, x ∈ m.s → ∀ g o, x.v.p = some (⟨g, o, none⟩ : Addr) → x.v.d.data ≠ [] → g ∉ bs) : Sr w' s b q v m := by
  obtain ⟨hh, hq, hr⟩ := r.hq
  have n : ∀ g, g ∈ own s b q v → g ∉ bs := fun g h1 h2 => h g h2 h1
  exact ⟨hk.blk r.hs (n _ (by simp [own])), hk.blk r.hb (n _ (by simp [own])), ⟨hh, qs_kept hq hk (n _ (by simp [own])) (fun g hg => n g (by simp [own, hg])), hr⟩,
    fun x hx => ⟨Bts.but (r.dat x hx).bts hk (hd x hx), (r.dat x hx).ne⟩⟩
theorem Sr.own_lt {w : World} {s b q : Nat} {v : Value} {m : Ms} (r : Sr w s b q v m) : ∀ g, g ∈ own s b q v → g < w.heap.size := by
  intro g hg
  obtain ⟨hh, hq, _⟩ := r.hq
  simp only [own, List.mem_cons, Option.mem_toList] at hg
  rcases hg with rfl | rfl | rfl | hg
  · exact r.hs.lt
  · exact r.hb.lt
  · exact hq.hq.lt
  · exact (hq.own.lt g hg).2
/-- Only blocks that are new since are written. -/
theorem Sr.fresh {w w1 w' : World} {s b q : Nat} {v : Value} {m : Ms} {bs : List Nat} (r : Sr w s b q v m) (r1 : Sr w1 s b q v m) (h0 : Kept [] w w1) (hk : Kept bs w1 w') (h : ∀ g, g ∈ bs → w.heap.size ≤ g) : Sr w' s b q v m :=
  r.kept (h0.trans hk (fun _ h => h) (fun g hg => .inr (h g hg)))
set_option linter.unusedSimpArgs false in
set_option maxRecDepth 100000 in
set_option maxHeartbeats 6400000 in
theorem stamp_m (s b q i : Nat) (v : Value) (m : Ms) (d : Qd.Dv) (w : World) (r : Sr w s b q v m) (hi : i < 2) (hn : (m.way i).next < 4294967296) :
    Calls Tryz.prog 23 #[.pointer (some ⟨s, 0, none⟩), .int .i64 (i : Int), .agg (dvl d).toArray] w fun e w' => e = .returned (.agg (snt (i : Int) (stD m i d)).toArray) ∧ Sr w' s b q v (stM m i) ∧ Kept [s] w w' := by
  have HR := hx r
  have HI := hx hi
  have hsl := r.hs.lt
  have hii : (i : Int) < 2 := by omega
  clear r
  go_enter Tryz.func23, Tryz.ntmps23
  go_upto_region 1 with fail
  generalize hw1 : World.alloc (World.alloc w _) _ = w1
  have hk1 : Kept [] w w1 := by rw [← hw1]; exact ((Kept.refl _ _).alloc _).alloc _
  have HB5 := hx (show Blk w1 w.heap.size (dgl d.d d.p d.c) 50 by rw [← hw1]; exact (Blk.new w (dvl d) _).alloc _)
  have HB6 := hx (show Blk w1 (w.heap.size + 1) (snt 0 dv0) 85 by
    rw [← hw1]
    have h := Blk.new (w.alloc (.cells (dvl d).toArray 50)) (snt 0 dv0) 85
    rw [show (w.alloc (.cells (dvl d).toArray 50)).heap.size = w.heap.size + 1 by simp] at h
    exact h)
  clear hw1
  have R1 := hx (HR.out.kept hk1)
  have K1 := hx hk1
  have HN := hx (fun (W : World) (hk : Kept [] w1 W) => number_any s (i * 15) (sdc m b q) 74 (m.way i) W (R1.out.kept hk).hs (part_way m b q hi) hn)
  have HNS := hx (show w.heap.size ∉ [s] ∧ s ≠ w.heap.size by simp; omega)
  have HLT := hx hsl
  clear hk1 hi hsl hn
  refine wp_region_held_drew (S := (fun w3 => w3.cell? ⟨s, 33, none⟩ = some (.int .u32 m.now))) (by kernel_rfl) (R1.out.hs.cell (i := 33) rfl) (fun hHeld => ?_)
  refine take_by 0 7 (v := ?_) rfl rfl (by kernel_rfl) (by kernel_rfl) (by kernel_rfl) (fun _ _ _ h => h) (Or.inl ⟨by rfl, ?_⟩) (by assumption) ?_
  rotate_left
  · (intro w hSw; (try dsimp only at hSw); go_simp; try with_reducible rfl)
  try simp only [List.setIfInBounds_toArray, List.set_cons_zero, List.set_cons_succ]
  refine take_by 1 8 (v := ?_) rfl rfl (by kernel_rfl) (by kernel_rfl) (by kernel_rfl) (fun _ _ _ h => h) (Or.inl ⟨by rfl, ?_⟩) (by assumption) ?_
  rotate_left
  · (intro w hSw; (try dsimp only at hSw); go_simp; try with_reducible rfl)
  try simp only [List.setIfInBounds_toArray, List.set_cons_zero, List.set_cons_succ]
  refine take_by 2 9 (v := ?_) rfl rfl (by kernel_rfl) (by kernel_rfl) (by kernel_rfl) (fun _ _ _ h => h) (Or.inl ⟨by rfl, ?_⟩) (by assumption) ?_
  rotate_left
  · (intro w hSw; (try dsimp only at hSw); go_simp; try with_reducible rfl)
  try simp only [List.setIfInBounds_toArray, List.set_cons_zero, List.set_cons_succ]
  refine take_by 3 10 (v := ?_) rfl rfl (by kernel_rfl) (by kernel_rfl) (by kernel_rfl) (fun _ _ _ h => h) (Or.inl ⟨by rfl, ?_⟩) (by assumption) ?_
  rotate_left
  · (intro w hSw; (try dsimp only at hSw); go_simp; try with_reducible rfl)
  try simp only [List.setIfInBounds_toArray, List.set_cons_zero, List.set_cons_succ]
  refine take_by 4 11 (v := ?_) rfl rfl (by kernel_rfl) (by kernel_rfl) (by kernel_rfl) (fun _ _ _ h => h) (Or.inl ⟨by rfl, ?_⟩) (by assumption) ?_
  rotate_left
  · (intro w hSw; (try dsimp only at hSw); go_simp; try with_reducible rfl)
  try simp only [List.setIfInBounds_toArray, List.set_cons_zero, List.set_cons_succ]
  refine take_by 5 12 (v := ?_) rfl rfl (by kernel_rfl) (by kernel_rfl) (by kernel_rfl) (fun _ _ _ h => h) (Or.inl ⟨by rfl, ?_⟩) (by assumption) ?_
  rotate_left
  · (intro w hSw; (try dsimp only at hSw); go_simp; try with_reducible rfl)
  try simp only [List.setIfInBounds_toArray, List.set_cons_zero, List.set_cons_succ]
  refine take_by 6 13 (v := ?_) rfl rfl (by kernel_rfl) (by kernel_rfl) (by kernel_rfl) (fun _ _ _ h => h) (Or.inl ⟨by rfl, ?_⟩) (by assumption) ?_
  rotate_left
  · (intro w hSw; (try dsimp only at hSw); go_simp; try with_reducible rfl)
  try simp only [List.setIfInBounds_toArray, List.set_cons_zero, List.set_cons_succ]
  refine take_by 7 14 (v := ?_) rfl rfl (by kernel_rfl) (by kernel_rfl) (by kernel_rfl) (fun _ _ _ h => h) (Or.inl ⟨by rfl, ?_⟩) (by assumption) ?_
  rotate_left
  · (intro w hSw; (try dsimp only at hSw); go_simp; try with_reducible rfl)
  try simp only [List.setIfInBounds_toArray, List.set_cons_zero, List.set_cons_succ]
  refine take_by 8 15 (v := ?_) rfl rfl (by kernel_rfl) (by kernel_rfl) (by kernel_rfl) (fun _ _ _ h => h) (Or.inl ⟨by rfl, ?_⟩) (by assumption) ?_
  rotate_left
  · (intro w hSw; (try dsimp only at hSw); go_simp; try with_reducible rfl)
  try simp only [List.setIfInBounds_toArray, List.set_cons_zero, List.set_cons_succ]
  refine take_by 9 16 (v := ?_) rfl rfl (by kernel_rfl) (by kernel_rfl) (by kernel_rfl) (fun _ _ _ h => h) (Or.inl ⟨by rfl, ?_⟩) (by assumption) ?_
  rotate_left
  · (intro w hSw; (try dsimp only at hSw); go_simp; try with_reducible rfl)
  try simp only [List.setIfInBounds_toArray, List.set_cons_zero, List.set_cons_succ]
  refine take_by 11 18 (v := ?_) rfl rfl (by kernel_rfl) (by kernel_rfl) (by kernel_rfl) (fun _ _ _ h => h) (Or.inl ⟨by rfl, ?_⟩) (by assumption) ?_
  rotate_left
  · (intro w hSw; (try dsimp only at hSw); go_simp; try with_reducible rfl)
  try simp only [List.setIfInBounds_toArray, List.set_cons_zero, List.set_cons_succ]
  refine wpAnyH_ready (rs := [10]) (by kernel_rfl) (by simp) ?_
  refine AllReadyH.cons rfl (fun K hK => ?_) AllReadyH.nil
  go_simp
  (go_at_call 50; refine (HN.out _ (Kept.drew (Kept.refl [] w1))).mono ?_; rintro e w4 ⟨rfl, hb4, hk4⟩; have K4 := hx (show Kept [s] w1 w4 from ((Kept.refl [] w1).drew.mono (by simp)).trans hk4 (fun _ h => h) (fun _ h => .inl h)); have R4 := hx (R1.out.way HI.out _ K4.out hb4); have B4 := hx (K4.out.blk HB5.out HNS.out.1); clear hb4 hk4)
  refine hK.out _ _ (R4.out.hs.cell (i := 33) (nowW _ _ _ b q)) (fun hHeld => ?_)
  clear hK K
  try simp only [Act.put, List.setIfInBounds_toArray, List.set_cons_zero, List.set_cons_succ]
  have cc := B4.out.cell (i := 3) rfl
  have ff := B4.out.free
  refine wpAnyH_ready (rs := [12]) (by kernel_rfl) (by simp) ?_
  refine AllReadyH.cons rfl (fun K hK => ?_) AllReadyH.nil
  go_simp
  generalize hwa : World.setCell _ _ _ = wa at *
  have Ba := hx (show Blk wa w.heap.size (dgl { d.d with path := (i : Int) } d.p d.c) 50 by rw [← hwa]; exact B4.out.set 3 _)
  have Ka := hx (show Kept [s, w.heap.size] w1 wa by rw [← hwa]; exact (K4.out.mono (cs := [s, w.heap.size]) (fun x hx => .inl (by simp at hx; simp [hx]))).setCell (.inl (by simp)) _)
  have KSa := hx (show Kept [w.heap.size] w4 wa by rw [← hwa]; exact (Kept.refl [w.heap.size] w4).setCell (.inl (by simp)) _)
  clear hwa cc ff
  refine hK.out _ _ ((KSa.out.blk R4.out.hs (by have := HNS.out.2; simp; omega)).cell (i := 33) (nowW _ _ _ b q)) (fun _ => ?_)
  clear hK K
  try simp only [Act.put, List.getElem_toArray, List.getElem_cons_succ, List.getElem_cons_zero, List.setIfInBounds_toArray, List.set_cons_zero, List.set_cons_succ]
  refine take_by 13 19 (v := ?_) rfl rfl (by kernel_rfl) (by kernel_rfl) (by kernel_rfl) (fun _ _ _ h => h) (Or.inl ⟨by rfl, ?_⟩) (by assumption) ?_
  rotate_left
  · (intro w hSw; (try dsimp only at hSw); go_simp; try with_reducible rfl)
  try simp only [List.setIfInBounds_toArray, List.set_cons_zero, List.set_cons_succ]
  have cc := Ba.out.cell (i := 4) rfl
  have ff := Ba.out.free
  refine wpAnyH_ready (rs := [14]) (by kernel_rfl) (by simp) ?_
  refine AllReadyH.cons rfl (fun K hK => ?_) AllReadyH.nil
  go_simp
  generalize hwb : World.setCell _ _ _ = wb at *
  have Bb := hx (show Blk wb w.heap.size (dgl { d.d with path := (i : Int), tick := m.now } d.p d.c) 50 by rw [← hwb]; exact Ba.out.set 4 _)
  have Kb := hx (show Kept [s, w.heap.size] w1 wb by rw [← hwb]; exact Ka.out.setCell (.inl (by simp)) _)
  have KSb := hx (show Kept [w.heap.size] w4 wb by rw [← hwb]; exact KSa.out.setCell (.inl (by simp)) _)
  clear hwb cc ff
  refine hK.out _ _ ((KSb.out.blk R4.out.hs (by have := HNS.out.2; simp; omega)).cell (i := 33) (nowW _ _ _ b q)) (fun _ => ?_)
  clear hK K
  try simp only [Act.put, List.getElem_toArray, List.getElem_cons_succ, List.getElem_cons_zero, List.setIfInBounds_toArray, List.set_cons_zero, List.set_cons_succ]
  refine take_by 15 20 (v := ?_) rfl rfl (by kernel_rfl) (by kernel_rfl) (by kernel_rfl) (fun _ _ _ h => h) (Or.inl ⟨by rfl, ?_⟩) (by assumption) ?_
  rotate_left
  · (intro w hSw; (try dsimp only at hSw); go_simp; try with_reducible rfl)
  try simp only [List.setIfInBounds_toArray, List.set_cons_zero, List.set_cons_succ]
  have cc := Bb.out.cell (i := 2) rfl
  have ff := Bb.out.free
  refine wpAnyH_ready (rs := [16]) (by kernel_rfl) (by simp) ?_
  refine AllReadyH.cons rfl (fun K hK => ?_) AllReadyH.nil
  go_simp
  generalize hwc : World.setCell _ _ _ = wc at *
  have Bc := hx (show Blk wc w.heap.size (dgl { d.d with path := (i : Int), tick := m.now, seq := (m.way i).next } d.p d.c) 50 by rw [← hwc]; exact Bb.out.set 2 _)
  have Kc := hx (show Kept [s, w.heap.size] w1 wc by rw [← hwc]; exact Kb.out.setCell (.inl (by simp)) _)
  have KSc := hx (show Kept [w.heap.size] w4 wc by rw [← hwc]; exact KSb.out.setCell (.inl (by simp)) _)
  clear hwc cc ff
  refine hK.out _ _ ((KSc.out.blk R4.out.hs (by have := HNS.out.2; simp; omega)).cell (i := 33) (nowW _ _ _ b q)) (fun _ => ?_)
  clear hK K
  try simp only [Act.put, List.getElem_toArray, List.getElem_cons_succ, List.getElem_cons_zero, List.setIfInBounds_toArray, List.set_cons_zero, List.set_cons_succ]
  refine wpAnyH_done (by kernel_rfl) ?_ _
  have R9 := hx (R4.out.but KSc.out (fun g hg ho => by
    simp only [List.mem_cons, List.not_mem_nil, or_false] at hg
    have := HR.out.own_lt g ho
    omega) (fun x hx g o hp hd hg => by
    simp only [List.mem_cons, List.not_mem_nil, or_false] at hg
    rw [(setW_same m i _).2.2.2.2.2.2.2] at hx
    have := (HR.out.dat x hx).lt hp hd
    omega))
  have HZ := hx (KSc.out.blk (K4.out.blk HB6.out (by have := HLT.out; simp; omega)) (by simp))
  have HD := hx (show dgl { d.d with path := (i : Int), tick := m.now, seq := (m.way i).next } d.p d.c = dvl (stD m i d) from rfl)
  rw [HD.out] at Bc
  have KF := hx (show Kept [s, w.heap.size] w1 wc from Kc.out)
  clear Ba Bb Ka Kb KSa KSb R4 B4 K4 HN HD Kc KSc R1 HB5 HB6
  go_wp2_with (first
    | (refine load_blk rfl 50 (.tmp 5) rfl w.heap.size rfl 50 _ _ Bc.out Tryz.underlying50 rfl infoDg ?_)
    | (refine wpList_built rfl 85 _ rfl _ [(0, .int .i64 (i : Int)), (1, .agg (dvl (stD m i d)).toArray)] (by simp only [List.map_toArray, List.map_cons, List.map_nil]; rfl) (builtSn (i : Int) (stD m i d)) ?_)
    | (refine store_blk rfl 85 (.tmp 6) (.tmp 23) rfl (w.heap.size + 1) rfl 85 _ (snt (i : Int) (stD m i d)) rfl HZ.out rfl infoSn (snt_one _ _) ?_; intro w7 hb7 hk7; have HB7 := hx hb7; have HK7 := hx hk7; clear hb7 hk7))
  refine bodyPost_ret (ret_blk rfl _ (w.heap.size + 1) _ _ _ rfl HB7.out Tryz.underlying85 rfl infoSn) rfl ⟨rfl, ?_, ?_⟩
  · exact R9.out.but HK7.out (fun g hg ho => by
      simp only [List.mem_cons, List.not_mem_nil, or_false] at hg
      have := HR.out.own_lt g ho
      omega) (fun x hx g o hp hd hg => by
      simp only [List.mem_cons, List.not_mem_nil, or_false] at hg
      rw [(setW_same m i _).2.2.2.2.2.2.2] at hx
      have := (HR.out.dat x hx).lt hp hd
      omega)
  · have h1 : Kept [s] w wc := (K1.out.mono (cs := [s]) (by simp)).trans KF.out (fun _ h => h) (fun g hg => by
      simp only [List.mem_cons, List.not_mem_nil, or_false] at hg
      rcases hg with rfl | rfl
      · exact .inl (by simp)
      · exact .inr (Nat.le_refl _))
    exact h1.trans HK7.out (fun _ h => h) (fun g hg => by
      simp only [List.mem_cons, List.not_mem_nil, or_false] at hg
      subst hg
      exact .inr (by omega))
end Go.Proofs.YtgdofgckjkmhjaaGreat.Mp
