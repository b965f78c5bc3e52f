/- The queue's Push. Printed by k/gen_qda.py. -/
import Derived.Test.YtgdofgckjkmhjaaQdA
namespace Go.Proofs.Ytgdofgckjkmhjaa.Qd
open Go Go.RowKit
set_option linter.unusedSimpArgs false in
set_option maxRecDepth 100000 in
set_option maxHeartbeats 12800000 in
theorem push_any (q : Nat) (v : Value) (room turns rank : Int) (x : Dv) (h : List It) (w : World) (s : Qs w q v room turns h) (hb : h.length ≤ 100000) (ht0 : 0 ≤ turns) (ht1 : turns ≤ 1000000) :
    Calls Try.prog 16 #[.pointer (some ⟨q, 0, none⟩), .int .i64 rank, .agg (dvl x).toArray] w (PushP w q v room (turns + 1) h ⟨rank, turns + 1, x⟩) := by
  have HS := hx s
  have hql := s.hq.lt
  have HOL := hx (fun g (hg : v.ownBlock = some g) => own_lt s.own hg)
  clear s
  go_enter Try.func16, Try.ntmps16
  go_upto_region 1 with fail
  generalize hw0 : World.alloc (World.alloc w _) _ = w0
  have hk0 : Kept [] w w0 := by rw [← hw0]; exact ((Kept.refl _ _).alloc _).alloc _
  have hb5 : Blk w0 w.heap.size (dvl x) 34 := by rw [← hw0]; exact (Blk.new w (dvl x) _).alloc _
  have hb6 : Blk w0 (w.heap.size + 1) (dvl dv0) 34 := by
    rw [← hw0]
    have h := Blk.new (w.alloc (.cells (dvl x).toArray 34)) (dvl dv0) 34
    rw [show (w.alloc (.cells (dvl x).toArray 34)).heap.size = w.heap.size + 1 by simp] at h
    exact h
  clear hw0
  have hq0 := hk0.blk HS.out.hq (by simp)
  have c1 := hq0.cell (i := 1) rfl
  have hf := hq0.free 1
  go_upto_region 2 with fail
  generalize hw1 : World.setCell w0 _ _ = w1
  have hq1 : Blk w1 q [.int .i64 room, .int .i64 (turns + 1), v] 79 := by rw [← hw1]; exact hq0.set 1 _
  have HZ := hx (show Blk w1 (w.heap.size + 1) (dvl dv0) 34 by rw [← hw1]; exact hb6.set_ne (by show w.heap.size + 1 ≠ q; omega) _)
  have HB5 := hx (show Blk w1 w.heap.size (dvl x) 34 by rw [← hw1]; exact hb5.set_ne (by show w.heap.size ≠ q; omega) _)
  have HK1 := hx (show Kept [q] w w1 by rw [← hw1]; exact (hk0.mono (by simp)).setCell (.inl (by simp)) _)
  have hown : w1.ownsRow 0 81 13 v h.length (cel h) := by
    have h0 : w0.ownsRow 0 81 13 v h.length (cel h) := own_kept3 HS.out.own (fun g cs _ hg => hk0.block g (Array.getElem?_eq_some_iff.1 hg).1 (by simp))
    rw [← hw1]
    refine World.ownsRow.kept (row := some q) h0 ⟨rfl, rfl, rfl, by simp [World.setCell], fun k hk hn => Below.heap_setCell _ _ _ _ (fun e => hn (congrArg some e))⟩ ?_
    exact .inr HS.out.ne
  have OWN := hx (fun (W : World) (hk : Kept [] w1 W) => show W.ownsRow 0 81 13 v h.length (cel h) from own_kept3 hown (fun g cs _ hg => hk.block g (Array.getElem?_eq_some_iff.1 hg).1 (by simp)))
  have HQ := hx hq1
  have HLT := hx hql
  have HNE := hx (show q ∉ v.ownBlock.toList ∧ (w.heap.size + 1) ∉ v.ownBlock.toList ∧ v.ownBlock ≠ some q from ⟨fun hm => HS.out.ne (by simpa using hm), fun hm => by have := HOL.out _ (by simpa using hm); omega, HS.out.ne⟩)
  have HSF := hx (fun (w3 : World) (hk : Kept v.ownBlock.toList w1 w3) => show (fun w3 => w3.cell? ⟨q, 1, none⟩ = some (.int .i64 (turns + 1)) ∧ w3.rangeAt w.heap.size 0 (dvl x)) w3 from ⟨(hk.blk hq1 HNE.out.1).cell (i := 1) rfl, (hk.blk HB5.out (fun hm => by have := HOL.out _ (by simpa using hm); omega)).range⟩)
  have HSK := hx (fun (w3 : World) (hk : Kept [] w1 w3) => HSF.out w3 (hk.mono (by simp)))
  have HSW := hx (fun (w3 : World) (u : Value) (hs : (fun w3 => w3.cell? ⟨q, 1, none⟩ = some (.int .i64 (turns + 1)) ∧ w3.rangeAt w.heap.size 0 (dvl x)) w3) => show (fun w3 => w3.cell? ⟨q, 1, none⟩ = some (.int .i64 (turns + 1)) ∧ w3.rangeAt w.heap.size 0 (dvl x)) (w3.setCell ⟨q, 2, none⟩ u) from ⟨by rw [World.cell?_setCell_other _ _ _ _ (by simp)]; exact hs.1, fun j y hj => by rw [World.cell?_setCell_other _ _ _ _ (fun e => by have h1 := congrArg Addr.block e; have h2 := HLT.out; simp only at h1; omega)]; exact hs.2 j y hj⟩)
  clear c1 hf hk0 hb5 hb6 hq0 hw1 hq1 hown hql
  go_cut [7] (fun s7 wx => s7 = .bool false ∧ ∃ v', Qs wx q v' room (turns + 1) (h ++ [⟨rank, turns + 1, x⟩]) ∧ Blk wx (w.heap.size + 1) (dvl dv0) 34 ∧ Kept (q :: v.ownBlock.toList) w1 wx ∧ (v'.ownBlock = v.ownBlock ∨ ∃ g, v'.ownBlock = some g ∧ w1.heap.size ≤ g))
  case first =>
    refine wp_region_held_drew (S := (fun w3 => w3.cell? ⟨q, 1, none⟩ = some (.int .i64 (turns + 1)) ∧ w3.rangeAt w.heap.size 0 (dvl x))) (by kernel_rfl) (HSK.out _ (Kept.drew (Kept.refl [] w1))) (fun hHeld => ?_)
    refine take_by 0 16 (v := ?_) rfl rfl (by kernel_rfl) (by kernel_rfl) (by kernel_rfl) (fun _ _ _ h => h) (Or.inl ⟨by rfl, ?_⟩) (by assumption) ?_
    rotate_left
    · (intro w hSw; (try dsimp only at hSw); go_simp; try with_reducible rfl)
    try simp only [List.setIfInBounds_toArray, List.set_cons_zero, List.set_cons_succ]
    refine take_by 1 17 (v := ?_) rfl rfl (by kernel_rfl) (by kernel_rfl) (by kernel_rfl) (fun _ _ _ h => h) (Or.inl ⟨by rfl, ?_⟩) (by assumption) ?_
    rotate_left
    · (intro w hSw; (try dsimp only at hSw); go_simp; try with_reducible rfl)
    try simp only [List.setIfInBounds_toArray, List.set_cons_zero, List.set_cons_succ]
    refine take_by 2 18 (v := ?_) rfl rfl (by kernel_rfl) (by kernel_rfl) (by kernel_rfl) (fun _ _ _ h => h) (Or.inl ⟨by rfl, ?_⟩) (by assumption) ?_
    rotate_left
    · (intro w hSw; (try dsimp only at hSw); go_simp; try with_reducible rfl)
    try simp only [List.setIfInBounds_toArray, List.set_cons_zero, List.set_cons_succ]
    refine take_by 3 19 (v := ?_) rfl rfl (by kernel_rfl) (by kernel_rfl) (by kernel_rfl) (fun _ _ _ h => h) (Or.inl ⟨by rfl, ?_⟩) (by assumption) ?_
    rotate_left
    · (intro w hSw; (try dsimp only at hSw); go_simp; try with_reducible rfl)
    try simp only [List.setIfInBounds_toArray, List.set_cons_zero, List.set_cons_succ]
    refine take_by 5 21 (v := ?_) rfl rfl (by kernel_rfl) (by kernel_rfl) (by kernel_rfl) (fun _ _ _ h => h) (Or.inl ⟨by rfl, ?_⟩) (by assumption) ?_
    rotate_left
    · (intro w hSw; (try dsimp only at hSw); go_simp; try with_reducible rfl)
    try simp only [List.setIfInBounds_toArray, List.set_cons_zero, List.set_cons_succ]
    refine take_by 6 22 (v := ?_) rfl rfl (by kernel_rfl) (by kernel_rfl) (by kernel_rfl) (fun _ _ _ h => h) (Or.inl ⟨by rfl, ?_⟩) (by assumption) ?_
    rotate_left
    · (intro w hSw; (try dsimp only at hSw); go_simp; try with_reducible rfl)
    try simp only [List.setIfInBounds_toArray, List.set_cons_zero, List.set_cons_succ]
    refine take_by 7 23 (v := ?_) rfl rfl (by kernel_rfl) (by kernel_rfl) (by kernel_rfl) (fun _ _ _ h => h) (Or.inl ⟨by rfl, ?_⟩) (by assumption) ?_
    rotate_left
    · (intro w hSw; (try dsimp only at hSw); go_simp; try with_reducible rfl)
    try simp only [List.setIfInBounds_toArray, List.set_cons_zero, List.set_cons_succ]
    refine take_by 8 24 (v := ?_) rfl rfl (by kernel_rfl) (by kernel_rfl) (by kernel_rfl) (fun _ _ _ h => h) (Or.inl ⟨by rfl, ?_⟩) (by assumption) ?_
    rotate_left
    · (intro w hSw; (try dsimp only at hSw); go_simp; try with_reducible rfl)
    try simp only [List.setIfInBounds_toArray, List.set_cons_zero, List.set_cons_succ]
    refine take_by 9 25 (v := ?_) rfl rfl (by kernel_rfl) (by kernel_rfl) (by kernel_rfl) (fun _ _ _ h => h) (Or.inl ⟨by rfl, ?_⟩) (by assumption) ?_
    rotate_left
    · (intro w hSw; (try dsimp only at hSw); go_simp; try with_reducible rfl)
    try simp only [List.setIfInBounds_toArray, List.set_cons_zero, List.set_cons_succ]
    refine take_by 10 26 (v := .agg (dvl x).toArray) rfl rfl (by kernel_rfl) (by kernel_rfl) (by kernel_rfl) (fun _ _ _ h => h) (yieldsIf_load_mid (by rfl) 34 (.tmp 5) rfl w.heap.size (0) rfl (dvl x) _ (fun _ hS => hS.2) Try.underlying34 rfl (by kernel_rfl)) (by assumption) ?_
    try simp only [List.setIfInBounds_toArray, List.set_cons_zero, List.set_cons_succ]
    refine take_by 11 27 (v := .agg (itc ⟨rank, turns + 1, x⟩).toArray) rfl rfl (by kernel_rfl) (by kernel_rfl) (by kernel_rfl) (fun _ _ _ h => h) (yieldsIf_build (by rfl) 81 _ rfl _ [(0, .int .i64 rank), (1, .int .i64 (turns + 1)), (2, .agg (dvl x).toArray)] (by simp only [List.map_toArray, List.map_cons, List.map_nil]; rfl) (builtIt rank (turns + 1) x)) (by assumption) ?_
    try simp only [List.setIfInBounds_toArray, List.set_cons_zero, List.set_cons_succ]
    refine wpAnyH_ready (rs := [4, 12]) (by kernel_rfl) (by simp) ?_
    refine AllReadyH.cons rfl (fun K hK => ?_) (AllReadyH.cons rfl (fun K hK => ?_) AllReadyH.nil)
    · have hh := (Blk.drew2 HQ.out)
      go_simp
      refine hK.out _ _ (HSK.out _ (Kept.drew (Kept.refl [] w1))) (fun _ => ?_)
      clear hK K hh
      try simp only [Act.put, List.getElem_toArray, List.getElem_cons_succ, List.getElem_cons_zero, List.setIfInBounds_toArray, List.set_cons_zero, List.set_cons_succ]
      refine wpAnyH_ready (rs := [12]) (by kernel_rfl) (by simp) ?_
      refine AllReadyH.cons rfl (fun K hK => ?_) AllReadyH.nil
      refine step_bs rfl (.tmp 27) rfl ⟨rank, turns + 1, x⟩ rfl ?_
      intro W1 hbs hks
      have BS := hx hbs
      have KS := hx (show Kept [] w1 W1 from (Kept.drew (Kept.refl [] w1)).trans0 hks)
      have hne : (some (⟨w1.drew.heap.size, 0, none⟩ : Addr)) = some ⟨w1.heap.size, 0, none⟩ := rfl
      clear hbs hks hne
      refine hK.out _ _ (HSK.out _ KS.out) (fun _ => ?_)
      clear hK K
      try simp only [Act.put, List.getElem_toArray, List.getElem_cons_succ, List.getElem_cons_zero, List.setIfInBounds_toArray, List.set_cons_zero, List.set_cons_succ]
      refine wpAnyH_ready (rs := [13]) (by kernel_rfl) (by simp) ?_
      refine AllReadyH.cons rfl (fun K hK => ?_) AllReadyH.nil
      refine step_app_at rfl (.tmp 20) (.tmp 28) 77 rfl 0 81 _ 13 104 infoIt3 Try.underlying77 rfl (by omega) v h.length (cel h) rfl (OWN.out _ KS.out) ⟨w1.heap.size, 0, none⟩ 1 1 (itc ⟨rank, turns + 1, x⟩) rfl rfl (newsB BS.out) (itc_one _) (by unfold maxLen; omega) (by omega) (Nat.zero_le _) ?_
      intro v2 w2 o2 g2 at2
      obtain ⟨gb, cb, ev⟩ := own_some o2
      subst ev
      have KG := hx (show Kept v.ownBlock.toList w1 w2 from (KS.out.mono (by simp)).trans ((Kept.refl v.ownBlock.toList _).grown g2 (fun k e => .inl (by simp [e]))) (fun _ h => h) (fun _ h => .inl h))
      have zq := KG.out.blk HQ.out HNE.out.1
      have z1 := zq.cell (i := 2) rfl
      have z2 := zq.free 2
      have PF := hx (push_fin HQ.out HNE.out.2.2 KS.out g2 o2 at2)
      have BZ := hx ((KG.out.blk HZ.out HNE.out.2.1).set_ne (a := ⟨q, 2, none⟩) (by have := HLT.out; show w.heap.size + 1 ≠ q; omega) (.slice (some ⟨gb, 0, none⟩) (h.length + 1) cb))
      have HS3 := hx (HSF.out _ KG.out)
      clear o2 g2 at2 zq
      refine hK.out _ _ HS3.out (fun _ => ?_)
      clear hK K
      try simp only [Act.put, List.getElem_toArray, List.getElem_cons_succ, List.getElem_cons_zero, List.setIfInBounds_toArray, List.set_cons_zero, List.set_cons_succ]
      refine take_by 14 30 (v := ?_) rfl rfl (by kernel_rfl) (by kernel_rfl) (by kernel_rfl) (fun _ _ _ h => h) (Or.inl ⟨by rfl, ?_⟩) (by assumption) ?_
      rotate_left
      · (intro w hSw; (try dsimp only at hSw); go_simp; try with_reducible rfl)
      try simp only [List.setIfInBounds_toArray, List.set_cons_zero, List.set_cons_succ]
      refine take_by 15 31 (v := ?_) rfl rfl (by kernel_rfl) (by kernel_rfl) (by kernel_rfl) (fun _ _ _ h => h) (Or.inl ⟨by rfl, ?_⟩) (by assumption) ?_
      rotate_left
      · (intro w hSw; (try dsimp only at hSw); go_simp; try with_reducible rfl)
      try simp only [List.setIfInBounds_toArray, List.set_cons_zero, List.set_cons_succ]
      refine wpAnyH_ready (rs := [16]) (by kernel_rfl) (by simp) ?_
      refine AllReadyH.cons rfl (fun K hK => ?_) AllReadyH.nil
      go_simp
      refine hK.out _ _ (HSW.out _ _ HS3.out) (fun _ => ?_)
      clear hK K
      try simp only [Act.put, List.getElem_toArray, List.getElem_cons_succ, List.getElem_cons_zero, List.setIfInBounds_toArray, List.set_cons_zero, List.set_cons_succ]
      refine wpAnyH_done (by kernel_rfl) ?_ _
      go_wp2_with fail
      go_meet
      exact ⟨rfl, _, PF.out.1, BZ.out, PF.out.2⟩
    · refine step_bs rfl (.tmp 27) rfl ⟨rank, turns + 1, x⟩ rfl ?_
      intro W1 hbs hks
      have BS := hx hbs
      have KS := hx (show Kept [] w1 W1 from (Kept.drew (Kept.refl [] w1)).trans0 hks)
      have hne : (some (⟨w1.drew.heap.size, 0, none⟩ : Addr)) = some ⟨w1.heap.size, 0, none⟩ := rfl
      clear hbs hks hne
      refine hK.out _ _ (HSK.out _ KS.out) (fun _ => ?_)
      clear hK K
      try simp only [Act.put, List.getElem_toArray, List.getElem_cons_succ, List.getElem_cons_zero, List.setIfInBounds_toArray, List.set_cons_zero, List.set_cons_succ]
      refine wpAnyH_ready (rs := [4]) (by kernel_rfl) (by simp) ?_
      refine AllReadyH.cons rfl (fun K hK => ?_) AllReadyH.nil
      have hh := (Blk.kept2 HQ.out KS.out)
      go_simp
      refine hK.out _ _ (HSK.out _ KS.out) (fun _ => ?_)
      clear hK K hh
      try simp only [Act.put, List.getElem_toArray, List.getElem_cons_succ, List.getElem_cons_zero, List.setIfInBounds_toArray, List.set_cons_zero, List.set_cons_succ]
      refine wpAnyH_ready (rs := [13]) (by kernel_rfl) (by simp) ?_
      refine AllReadyH.cons rfl (fun K hK => ?_) AllReadyH.nil
      refine step_app_at rfl (.tmp 20) (.tmp 28) 77 rfl 0 81 _ 13 104 infoIt3 Try.underlying77 rfl (by omega) v h.length (cel h) rfl (OWN.out _ KS.out) ⟨w1.heap.size, 0, none⟩ 1 1 (itc ⟨rank, turns + 1, x⟩) rfl rfl (newsB BS.out) (itc_one _) (by unfold maxLen; omega) (by omega) (Nat.zero_le _) ?_
      intro v2 w2 o2 g2 at2
      obtain ⟨gb, cb, ev⟩ := own_some o2
      subst ev
      have KG := hx (show Kept v.ownBlock.toList w1 w2 from (KS.out.mono (by simp)).trans ((Kept.refl v.ownBlock.toList _).grown g2 (fun k e => .inl (by simp [e]))) (fun _ h => h) (fun _ h => .inl h))
      have zq := KG.out.blk HQ.out HNE.out.1
      have z1 := zq.cell (i := 2) rfl
      have z2 := zq.free 2
      have PF := hx (push_fin HQ.out HNE.out.2.2 KS.out g2 o2 at2)
      have BZ := hx ((KG.out.blk HZ.out HNE.out.2.1).set_ne (a := ⟨q, 2, none⟩) (by have := HLT.out; show w.heap.size + 1 ≠ q; omega) (.slice (some ⟨gb, 0, none⟩) (h.length + 1) cb))
      have HS3 := hx (HSF.out _ KG.out)
      clear o2 g2 at2 zq
      refine hK.out _ _ HS3.out (fun _ => ?_)
      clear hK K
      try simp only [Act.put, List.getElem_toArray, List.getElem_cons_succ, List.getElem_cons_zero, List.setIfInBounds_toArray, List.set_cons_zero, List.set_cons_succ]
      refine take_by 14 30 (v := ?_) rfl rfl (by kernel_rfl) (by kernel_rfl) (by kernel_rfl) (fun _ _ _ h => h) (Or.inl ⟨by rfl, ?_⟩) (by assumption) ?_
      rotate_left
      · (intro w hSw; (try dsimp only at hSw); go_simp; try with_reducible rfl)
      try simp only [List.setIfInBounds_toArray, List.set_cons_zero, List.set_cons_succ]
      refine take_by 15 31 (v := ?_) rfl rfl (by kernel_rfl) (by kernel_rfl) (by kernel_rfl) (fun _ _ _ h => h) (Or.inl ⟨by rfl, ?_⟩) (by assumption) ?_
      rotate_left
      · (intro w hSw; (try dsimp only at hSw); go_simp; try with_reducible rfl)
      try simp only [List.setIfInBounds_toArray, List.set_cons_zero, List.set_cons_succ]
      refine wpAnyH_ready (rs := [16]) (by kernel_rfl) (by simp) ?_
      refine AllReadyH.cons rfl (fun K hK => ?_) AllReadyH.nil
      go_simp
      refine hK.out _ _ (HSW.out _ _ HS3.out) (fun _ => ?_)
      clear hK K
      try simp only [Act.put, List.getElem_toArray, List.getElem_cons_succ, List.getElem_cons_zero, List.setIfInBounds_toArray, List.set_cons_zero, List.set_cons_succ]
      refine wpAnyH_done (by kernel_rfl) ?_ _
      go_wp2_with fail
      go_meet
      exact ⟨rfl, _, PF.out.1, BZ.out, PF.out.2⟩
  case rest =>
    obtain ⟨rfl, v', hs', hz', hk', hn'⟩ := hcut
    have HZC := hx hz'
    have hzl := HZ.out.lt
    clear HSK HSF HSW OWN HQ HB5 hz'
    have hl1 : (h ++ [(⟨rank, turns + 1, x⟩ : It)]).length = h.length + 1 := by simp
    obtain ⟨g, cap, rest, hv', m⟩ := hs'.toQm (by rw [hl1]; omega)
    subst hv'
    have hlA := add_len h ⟨rank, turns + 1, x⟩
    have hgz : g ≠ w.heap.size + 1 := by
      rcases hn' with h1 | ⟨g', h1, h2⟩
      · simp only [Value.ownBlock] at h1
        have := HOL.out g h1.symm
        omega
      · simp only [Value.ownBlock, Option.some.injEq] at h1
        omega
    have hgv : g ∈ q :: v.ownBlock.toList ∨ w.heap.size ≤ g := by
      have hsz := HK1.out.size
      rcases hn' with h1 | ⟨g', h1, h2⟩
      · simp only [Value.ownBlock] at h1
        exact .inl (by simp; exact .inr h1.symm)
      · simp only [Value.ownBlock, Option.some.injEq] at h1
        right; omega
    have hk0 : Kept (q :: v.ownBlock.toList) w wc := HK1.out.trans hk' (by simp) (fun x hx => .inl hx)
    have hnf : (Value.slice (some ⟨g, 0, none⟩) 0 cap).ownBlock = v.ownBlock ∨ ∃ g', (Value.slice (some ⟨g, 0, none⟩) 0 cap).ownBlock = some g' ∧ w.heap.size ≤ g' := by
      have hsz := HK1.out.size
      rcases hn' with h1 | ⟨g', h1, h2⟩
      · exact .inl h1
      · exact .inr ⟨g', h1, by omega⟩
    have HGV := hx hgv
    have HK := hx hk0
    have HNF := hx hnf
    have HU := hx (up_any q g cap h.length room (turns + 1) (h ++ [⟨rank, turns + 1, x⟩]) rest wc m (by rw [hl1]; omega) (by rw [hl1]; omega))
    have c2 := m.hq.cell (i := 2) rfl
    rw [hl1] at c2
    have c2' : wc.cell? ⟨q, 2, none⟩ = some (.slice (some ⟨g, 0, none⟩) (h.length + 1) cap) := c2
    have HLA := hx hlA
    have hq2 := m.hne
    have HNZ := hx (show (w.heap.size + 1) ∉ [g] ∧ (w.heap.size + 1) ∉ [q, g] by have := HLT.out; simp; omega)
    have HA : Hx (addL h ⟨rank, turns + 1, x⟩ = upL (h ++ [⟨rank, turns + 1, x⟩]) h.length) := hx rfl
    clear c2 m hs' hk' hn' hl1 hgv hk0 hnf hlA hgz hzl HZ
    go_wp2_with fail
    refine HU.out.mono ?_
    rintro e w3 ⟨rfl, m3, hk3⟩
    rw [← HA.out] at m3
    have hk03 : Kept (q :: v.ownBlock.toList) w w3 := HK.out.trans hk3 (fun _ h => h) (by intro x hx; simp only [List.mem_cons, List.not_mem_nil, or_false] at hx; subst hx; exact HGV.out)
    have HZ3 := hx (hk3.blk HZC.out HNZ.out.1)
    clear c2'
    obtain ⟨h2, hh2⟩ : ∃ h2, addL h ⟨rank, turns + 1, x⟩ = h2 := ⟨_, rfl⟩
    rw [hh2] at HLA m3
    have HPA := hx (show PushP w q v room (turns + 1) h ⟨rank, turns + 1, x⟩ = fun e w' => ∃ v', (if room < (h2.length : Int) then e = .returned (.tuple #[.agg (dvl (at_ h2 (lastK h2 h2.length)).v).toArray, .bool true]) ∧ Qs w' q v' room (turns + 1) (takeL h2 (lastK h2 h2.length)) else e = .returned (.tuple #[.agg (dvl dv0).toArray, .bool false]) ∧ Qs w' q v' room (turns + 1) h2) ∧ Kept (q :: v.ownBlock.toList) w w' ∧ (v'.ownBlock = v.ownBlock ∨ ∃ g, v'.ownBlock = some g ∧ w.heap.size ≤ g) by funext e w'; unfold PushP; rw [hh2])
    have c0 := m3.hq.cell (i := 0) rfl
    have c2 : w3.cell? ⟨q, 2, none⟩ = some (.slice (some ⟨g, 0, none⟩) h2.length cap) := m3.hq.cell (i := 2) rfl
    have hl2 : 0 < h2.length := by rw [HLA.out]; omega
    have hb2 : h2.length ≤ 1000000 := by rw [HLA.out]; omega
    clear hh2 HA
    go_upto_region 4 with fail
    go_cut [49] (fun s49 wx => s49 = .bool (decide (room < (h2.length : Int))) ∧ Kept [] w3 wx)
    case first =>
      go_quiet (fail)
      all_goals (go_wp2_with fail)
      all_goals (go_meet; exact ⟨rfl, (Kept.refl _ _).drewN _⟩)
    case rest =>
      obtain ⟨rfl, hkx⟩ := hcut
      have m4 := m3.kept hkx
      have hk04 := hk03.trans0 hkx
      have HZ4 := hx (hkx.blk HZ3.out (by simp))
      clear m3 hk3 hk03 hkx c0 c2
      have HK4 := hx hk04
      clear hk04
      by_cases hr : room < (h2.length : Int)
      · have d := decide_eq_true hr
        rw [d]
        have HR := hx hr
        clear d hr
        go_wp2_with fail
        refine (last_any q g cap room (turns + 1) h2 rest _ m4 hl2 hb2).mono ?_
        rintro e w5 ⟨rfl, hk5⟩
        have m5 := m4.kept hk5
        have hk05 := HK4.out.trans0 hk5
        have HZ5 := hx (hk5.blk HZ4.out (by simp))
        clear m4 hk5
        go_wp2_with fail
        refine (take_any q g cap (lastK h2 h2.length) _ room (turns + 1) h2 rest _ m5 (lastK_lt' h2 _ hl2) hb2 rfl).mono ?_
        rintro e w6 ⟨rfl, m6, hk6⟩
        have hk06 := hx (kept_qg hk05 hk6 HGV.out)
        have M6 := hx m6
        have HZ6 := hx (hk6.blk HZ5.out HNZ.out.2)
        clear m5 m6 hk6 hk05
        have hfi := fun W => fieldIt (at_ h2 (lastK h2 h2.length)) W
        go_wp2_with (refine store_blk rfl 34 (.tmp 6) (.tmp 54) rfl (w.heap.size + 1) rfl 34 _ (dvl (at_ h2 (lastK h2 h2.length)).v) rfl HZ6.out rfl infoDg (dvl_one _) ?_; intro w7 hb7 hk7; have HB7 := hx hb7; have HK7 := hx hk7; clear hb7 hk7)
        refine bodyPost_ret (ret_blk2 rfl _ (w.heap.size + 1) _ _ _ _ rfl rfl HB7.out Try.underlying34 rfl infoDg) rfl ?_
        rw [HPA.out]
        refine ⟨.slice (some ⟨g, 0, none⟩) (takeL h2 (lastK h2 h2.length)).length cap, ?_, hk06.out.trans HK7.out (fun _ h => h) (fun x hx => by simp at hx; subst hx; right; omega), HNF.out⟩
        rw [if_pos (by have := HR.out; omega)]
        exact ⟨rfl, (M6.out.frame HK7.out (by have := HLT.out; simp; omega) (by have := HNZ.out.1; simp at this; simp; omega)).toQs⟩
      · have d := decide_eq_false hr
        rw [d]
        have HR := hx hr
        clear d hr
        have M4 := hx m4
        have HZ8 := hx (Blk.new wc (dvl dv0) 34)
        have HA4 := hx ((Kept.refl [] wc).alloc (.cells (dvl dv0).toArray 34))
        clear m4
        go_wp2_with (first
          | (refine load_blk rfl 34 (.tmp 8) rfl wc.heap.size rfl 34 _ _ HZ8.out Try.underlying34 rfl infoDg ?_)
          | (refine store_blk rfl 34 (.tmp 6) (.tmp 55) rfl (w.heap.size + 1) rfl 34 _ (dvl dv0) rfl (HA4.out.blk HZ4.out (by simp)) rfl infoDg (dvl_one _) ?_; intro w7 hb7 hk7; have HB7 := hx hb7; have HK7 := hx hk7; clear hb7 hk7))
        refine bodyPost_ret (ret_blk2 rfl _ (w.heap.size + 1) _ _ _ _ rfl rfl HB7.out Try.underlying34 rfl infoDg) rfl ?_
        rw [HPA.out]
        refine ⟨.slice (some ⟨g, 0, none⟩) h2.length cap, ?_, (HK4.out.trans0 HA4.out).trans HK7.out (fun _ h => h) (fun x hx => by simp at hx; subst hx; right; omega), HNF.out⟩
        rw [if_neg (by have := HR.out; omega)]
        exact ⟨rfl, ((M4.out.kept HA4.out).frame HK7.out (by have := HLT.out; simp; omega) (by have := HNZ.out.1; simp at this; simp; omega)).toQs⟩
end Go.Proofs.Ytgdofgckjkmhjaa.Qd
