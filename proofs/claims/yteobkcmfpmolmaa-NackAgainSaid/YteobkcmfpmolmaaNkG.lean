/- nack: the iterator over the groups that are waited for; it ranges over the timer's. -/
import Derived.Test.YteobkcmfpmolmaaNkA
import Derived.Test.YteobkcmfpmolmaaTnZ
import Derived.Test.YteobkcmfpmolmaaRegR
namespace Go.Proofs.Yteobkcmfpmolmaa
open Go Go.RowKit Go.Shelf
attribute [local go_sem] Oper.semAt_some
/-- All cells stay but those of blocks of which pr holds; the map stays. -/
structure KpM (pr : Nat → TypeId → Prop) (mb : Nat) (A C : World) : Prop where
  kp : KpP pr A C
  map : C.heap[mb]? = A.heap[mb]?
theorem kpm_t {pr : Nat → TypeId → Prop} {mb : Nat} {A B C : World} (h : KpM pr mb A B) (k : KpM pr mb B C) : KpM pr mb A C := ⟨kpp_t h.kp k.kp, k.map.trans h.map⟩
theorem kpm_b {pr : Nat → TypeId → Prop} {mb l : Nat} (W : World) (o o' : Obj) (hl : W.heap[l]? = some o) (hc : o.isCells = false) (hm : mb ≠ l) : KpM pr mb W (W.putObj l o') := ⟨kpp_b W l o o' hl hc, World.putObj_heap_other hm⟩
theorem KeepsFrom.mono {B D : Nat} {A C : World} (h : KeepsFrom B A C) (hd : B ≤ D) : KeepsFrom D A C := ⟨h.size, fun k o hk ho hc => h.same k o (by omega) ho hc⟩
theorem AbY.mono {α : Type} {B D : Nat} {J : List α → World → Prop} (h : AbY B J) (hd : B ≤ D) : AbY D J := ⟨fun A C hj hb => h.1 A C hj (hb.mono hd), fun s A C hj hb => h.2 s A C hj (hb.mono hd)⟩
set_option maxHeartbeats 800000 in
theorem nall_any (p : Nat) (w : World) :
    Calls Try.prog 36 #[.pointer (some ⟨p, 0, none⟩)] w fun e w' => e = .returned (.func (.func 44) #[] #[.pointer (some ⟨w.heap.size, 0, none⟩)]) ∧ w' = w.alloc (.cells #[.pointer (some ⟨p, 0, none⟩)] 24) := by
  go_enter Try.func36, Try.ntmps36
  go_wp2
  go_ret
  exact ⟨rfl, rfl⟩
abbrev encN (f : Int → Int) (x : En) : Array Value := #[.int .u32 x.key, .int .i64 (f x.key)]
set_option maxRecDepth 100000 in
set_option maxHeartbeats 8000000 in
theorem nall_stops (Bq p q mb m : Nat) (v : Value) (room now no asked full : Int) (h s : List En) (f : Int → Int) (pr : Nat → TypeId → Prop) (w : World) (hB : Blk w Bq [.pointer (some ⟨p, 0, none⟩)] 24) (hs : Nk w p q mb m v room now no asked full h f) (hp : Tp h s now no) (hw : ∀ x, x ∈ s → (Lit.int .u32 x.key).wf = true)
    (hpB : ¬ pr Bq 24) (hpp : ¬ pr p nackT) (hpq : ¬ pr q 81) (hpt : ∀ b, w.heap.size ≤ b → ¬ pr b 58) (hpe : ∀ b, w.heap.size ≤ b → ¬ pr b 78) (hpf : ∀ b, w.heap.size ≤ b → ¬ pr b 90) (hb : h.length ≤ 1000000) :
    SeqZ Fence.wide 5 Try.prog 44 #[.pointer (some ⟨Bq, 0, none⟩)] (encN f) (KpM pr mb) (fun xs => xs = s) (fun pre => pre <+: s) s.length w := fun l J Jx W hWs hW hJ hJx hY h0 => by
  have hkW := Kept.ofBelow hW
  have HB := hx (hkW.blk hB (by simp))
  have HS := hx (hs.kept hkW)
  have HJ := hx hJ
  have HJX := hx hJx
  have HY := hx hY
  have H0 := hx h0
  have HWS := hx hWs
  have HP := hx hp
  have HW := hx hw
  have HPR := hx (And.intro hpB (And.intro hpp hpq))
  have HPT := hx (fun b (h : W.heap.size ≤ b) => hpt b (Nat.le_trans hkW.size h))
  have HPE := hx (fun b (h : W.heap.size ≤ b) => hpe b (Nat.le_trans hkW.size h))
  have HPF := hx (fun b (h : W.heap.size ≤ b) => hpf b (Nat.le_trans hkW.size h))
  have HHL := hx hb
  have HSL := hx hp.len
  clear hkW hB hs hJ hJx hY h0 hWs hp hw hpB hpp hpq hpt hpe hpf hb hW
  refine callsIn_of_wp_marks Try.func44 rfl trivial ?_ rfl
  simp only [Try.ntmps44, List.size_toArray, List.length_cons, List.length_nil, Nat.reduceAdd, Nat.reduceSub, Array.replicate_succ, Array.replicate_zero, List.push_toArray, List.append_toArray, List.nil_append, List.cons_append]
  refine wpIn_wide.2 ?_
  have BF := hx (Blk.new W [.func (.yield l) #[] #[]] 90)
  have KF := hx ((Kept.refl [] W).alloc (.cells #[.func (.yield l) #[] #[]] 90))
  go_upto_region 1 with fail
  have HFN := hx (show W.heap.size ≤ W.heap.size from Nat.le_refl _)
  have HWX := hx (show W.heap.size < (W.alloc (.cells #[.func (.yield l) #[] #[]] 90)).heap.size by simp)
  generalize W.alloc (.cells #[.func (.yield l) #[] #[]] 90) = W1 at *
  have cB := (KF.out.blk HB.out (by simp)).cell (i := 0) rfl
  have cp := (HS.out.kept KF.out).hp.cell (i := 0) rfl
  go_wp2_with fail
  refine (tall_any q W1).mono ?_
  rintro e w2 ⟨rfl, rfl⟩
  have BT := hx (Blk.new W1 [.pointer (some ⟨q, 0, none⟩)] 58)
  have K2 := hx (KF.out.alloc (.cells #[.pointer (some ⟨q, 0, none⟩)] 58))
  have BF2 := hx (BF.out.alloc (.cells #[.pointer (some ⟨q, 0, none⟩)] 58))
  have HSZ := hx (show W1.heap.size < (W1.alloc (.cells #[.pointer (some ⟨q, 0, none⟩)] 58)).heap.size by simp)
  clear cB cp BF KF
  generalize W1.heap.size = bt at *
  generalize W1.alloc (.cells #[.pointer (some ⟨q, 0, none⟩)] 58) = W2 at *
  have HST := hx (tall_stopz 4 bt q v room now no h s pr W2 BT.out (HS.out.kept K2.out).ts HP.out (HPT.out _ (by have h1 := HWX.out; omega)) HPR.out.2.2 (fun b hb => HPE.out b (by have h1 := K2.out.size; omega)) HHL.out (by omega))
  have HS2 := hx (HS.out.kept K2.out)
  have HB2 := hx (K2.out.blk HB.out (by simp))
  have hWW : W.heap.size < W2.heap.size := BF2.out.lt
  have HLT := hx (show W.heap.size < W2.heap.size ∧ Bq < W2.heap.size ∧ p < W2.heap.size ∧ mb < W2.heap.size from ⟨hWW, HB2.out.lt, HS2.out.hp.lt, HS2.out.mp.lt⟩)
  have HJ2 := hx (HJ.out.mono (Nat.le_of_lt hWW))
  have HMB := hx (show W2.heap[mb]? = some (W2.heap[mb]'HS2.out.mp.lt) from Array.getElem?_eq_getElem _)
  clear hWW
  go_wp2_with fail
  refine (wpIn_wide (n := 5)).1 ?_
  apply rangeZ (F := Fence.wide) (n := 5) (gf := 41) (lb := #[.pointer (some ⟨bt, 0, none⟩)]) (encs := encL now) (Kp := KpP pr) (S := fun xs => xs = s) (Sp := fun pre => pre <+: s) (N := s.length) rfl (by omega) rfl trivial (enters_of Try.func41 (by kernel_rfl) rfl) HST.out kpp_t (fun W o o' h hc => kpp_b W _ o o' h hc) (fun _ => rfl)
      (fun pre W' => J pre W' ∧ Blk W' W.heap.size [.func (.yield l) #[] #[]] 90 ∧ Blk W' Bq [.pointer (some ⟨p, 0, none⟩)] 24 ∧ Blk W' p [.pointer (some ⟨q, 0, none⟩), .map (some mb), .int .i64 asked, .int .i64 full] nackT ∧ W'.heap[mb]? = W2.heap[mb]?)
      (fun cd pre W' => cd = .ret ∧ Jx pre W')
      ⟨fun A C ⟨h1, h2, h3, h4, h5⟩ hb => ⟨HJ2.out.1 A C h1 hb, h2.below hb HLT.out.1, h3.below hb HLT.out.2.1, h4.below hb HLT.out.2.2.1, (hb.block _ HLT.out.2.2.2).trans h5⟩, fun pre A C ⟨h1, h2, h3, h4, h5⟩ hb => ⟨HJ2.out.2 pre A C h1 hb, hb.blk h2, hb.blk h3, hb.blk h4, (hb.block _ _ (h5.trans HMB.out) (.inl HLT.out.2.2.2)).trans h5⟩⟩
      (fun cd pre A C ⟨h1, h2⟩ hb => ⟨h1, HJX.out pre A C h2 (hb.mono (Nat.le_of_lt HLT.out.1))⟩)
      ⟨HJ.out.1 W W2 H0.out (kept_below K2.out (by simp) (Nat.le_refl _)), BF2.out, HB2.out, HS2.out.hp, rfl⟩
  case hassign =>
    intro l x W K hK
    gi_wp2
    exact hK
  case hbody =>
    rintro l' pre x W' ⟨hj, hbf, hbb, hbp, hbm⟩ hlen hsp
    have hwx : (Lit.int .u32 x.key).wf = true := HW.out x (hsp.subset (by simp))
    have hlk := (HS2.out.mp.at hbm).drew.look hwx
    have cf := hbf.cell (i := 0) rfl
    have cb := hbb.cell (i := 0) rfl
    have cm := hbp.cell (i := 1) rfl
    have HJD := HJ2.out.2 pre W' W'.drew hj (KeptN.of ((Kept.refl [] W').drew))
    obtain ⟨fn, tmps, assign, body, hy, hR⟩ := HY.out pre x _ HJD hlen hsp
    dsimp only [encN] at hy
    have HRR := hx (roundIn_in l' (roundAny (m' := 5 - 1 - 1 - 1) rfl (hR.mono (R' := fun e C => ∃ b, e = .returned (.bool b) ∧ Hx ((b = true ∧ J (pre ++ [x]) C ∧ KpM pr mb W'.drew C ∧ KeepsFrom (w.heap.size + 2) W'.drew C) ∨ (b = false ∧ Jx (pre ++ [x]) C ∧ KeepsFrom (w.heap.size + 2) W'.drew C))) (by
      rintro e C (⟨rfl, h1, h2, h3⟩ | ⟨rfl, h1, h2⟩)
      · exact ⟨true, rfl, ⟨.inl ⟨rfl, h1, h2, h3⟩⟩⟩
      · exact ⟨false, rfl, ⟨.inr ⟨rfl, h1, h2⟩⟩⟩))))
    have HBF := hx hbf
    have HBB := hx hbb
    have HBP := hx hbp
    have HBM := hx hbm
    clear hj hbf hbb hbp hbm hlen hsp hwx HJD hR
    gi_wp2_with fail
    refine wpIn_region_any (by kernel_rfl) ?_
    change wpAnyIn _ _ _ _ _ _ _ _ _ (World.drew _)
    refine wpAnyIn_of_R (W := W'.drew) (c := 8) _ _ _ _ ?_
    refine wpAnyR_take (i := 0) rfl (by kernel_rfl) (by kernel_rfl) (by kernel_rfl) (by kernel_rfl) (by kernel_rfl) (by kernel_rfl) (fun _ _ _ h => h) (Or.inl ⟨by rfl, by go_simp; try with_reducible rfl⟩) ?_
    simp only [Act.put, List.setIfInBounds_toArray]
    refine wpAnyR_take (i := 1) rfl (by kernel_rfl) (by kernel_rfl) (by kernel_rfl) (by kernel_rfl) (by kernel_rfl) (by kernel_rfl) (fun _ _ _ h => h) (Or.inl ⟨by rfl, by go_simp; try with_reducible rfl⟩) ?_
    simp only [Act.put]
    refine wpAnyR_take (i := 2) rfl (by kernel_rfl) (by kernel_rfl) (by kernel_rfl) (by kernel_rfl) (by kernel_rfl) (by kernel_rfl) (fun _ _ _ h => h) (Or.inl ⟨by rfl, by go_simp; try with_reducible rfl⟩) ?_
    simp only [Act.put]
    refine wpAnyR_take (i := 3) rfl (by kernel_rfl) (by kernel_rfl) (by kernel_rfl) (by kernel_rfl) (by kernel_rfl) (by kernel_rfl) (fun _ _ _ h => h) (Or.inl ⟨by rfl, by go_simp; try with_reducible rfl⟩) ?_
    simp only [Act.put]
    refine wpAnyR_take (i := 4) rfl (by kernel_rfl) (by kernel_rfl) (by kernel_rfl) (by kernel_rfl) (by kernel_rfl) (by kernel_rfl) (fun _ _ _ h => h) (Or.inl ⟨by rfl, by go_simp; try with_reducible rfl⟩) ?_
    simp only [Act.put]
    refine wpAnyR_take (i := 5) rfl (by kernel_rfl) (by kernel_rfl) (by kernel_rfl) (by kernel_rfl) (by kernel_rfl) (by kernel_rfl) (fun _ _ _ h => h) (Or.inl ⟨by rfl, by go_simp; try with_reducible rfl⟩) ?_
    simp only [Act.put]
    refine wpAnyR_take (i := 6) rfl (by kernel_rfl) (by kernel_rfl) (by kernel_rfl) (by kernel_rfl) (by kernel_rfl) (by kernel_rfl) (fun _ _ _ h => h) (Or.inl ⟨by rfl, by go_simp; try with_reducible rfl⟩) ?_
    simp only [Act.put]
    refine wpAnyR_take (i := 7) rfl (by kernel_rfl) (by kernel_rfl) (by kernel_rfl) (by kernel_rfl) (by kernel_rfl) (by kernel_rfl) (fun _ _ _ h => h) (Or.inl ⟨by rfl, by go_simp; try with_reducible rfl⟩) ?_
    simp only [Act.put]
    refine wpAnyR_call (by kernel_rfl) rfl (by rfl) ?_ (by kernel_rfl)
    go_simp
    refine HRR.out.mono ?_
    rintro e W3 ⟨b, rfl, H3⟩
    dsimp only
    rcases H3.out with ⟨rfl, hj3, hk3, hf3⟩ | ⟨rfl, hx3, hf3⟩
    · have HJ3 := hx hj3
      have HK3 := hx hk3
      have HF3 := hx hf3
      have HB3 := hx (show Blk W3 W.heap.size [.func (.yield l) #[] #[]] 90 from (show Blk W'.drew W.heap.size [.func (.yield l) #[] #[]] 90 from HBF.out).kpp hk3.kp (HPF.out _ (Nat.le_refl _)))
      have HB4 := hx (show Blk W3 Bq [.pointer (some ⟨p, 0, none⟩)] 24 from (show Blk W'.drew Bq [.pointer (some ⟨p, 0, none⟩)] 24 from HBB.out).kpp hk3.kp HPR.out.1)
      have HB5 := hx (show Blk W3 p [.pointer (some ⟨q, 0, none⟩), .map (some mb), .int .i64 asked, .int .i64 full] nackT from (show Blk W'.drew p [.pointer (some ⟨q, 0, none⟩), .map (some mb), .int .i64 asked, .int .i64 full] nackT from HBP.out).kpp hk3.kp HPR.out.2.1)
      have HKK := hx (show KpP pr W' W3 from kpp_t (KpP.of ((Kept.refl [] W').drew) (by simp)) hk3.kp)
      have HFF := hx (show KeepsFrom W2.heap.size W' W3 from ⟨hf3.size, fun k o hk ho hc => hf3.same k o (by have h1 := HWS.out; have h2 := HLT.out.1; omega) ho hc⟩)
      clear hj3 hk3 hf3 H3
      refine wpAnyR_last (i := 9) (by kernel_rfl) rfl (by rfl) (by kernel_rfl) (Or.inl ⟨by rfl, by go_simp; try with_reducible rfl⟩) ?_
      refine wpAnyR_done (by kernel_rfl) ?_
      simp only [Act.put, List.setIfInBounds_toArray]
      gi_wp2
      exact ⟨HFF.out, HKK.out, HJ3.out, HB3.out, HB4.out, HB5.out, HK3.out.map.trans HBM.out⟩
    · have HX3 := hx hx3
      have HFF := hx (show KeepsFrom W2.heap.size W' W3 from ⟨hf3.size, fun k o hk ho hc => hf3.same k o (by have h1 := HWS.out; have h2 := HLT.out.1; omega) ho hc⟩)
      clear hx3 hf3 H3
      refine wpAnyR_last (i := 9) (by kernel_rfl) rfl (by rfl) (by kernel_rfl) (Or.inl ⟨by rfl, by go_simp; try with_reducible rfl⟩) ?_
      refine wpAnyR_done (by kernel_rfl) ?_
      simp only [Act.put, List.setIfInBounds_toArray]
      gi_wp2
      exact ⟨HFF.out, rfl, HX3.out⟩
  case hdone =>
    rintro D xs W' hD rfl ⟨hj, _, _, _, _⟩ hK
    have HJJ := hx (HJ2.out.2 _ _ _ hj (keptN_put (B := W2.heap.size) W' D _ (.deferred none) hD hK rfl))
    clear hj
    go_wp2
    refine ⟨by simp, .inl ⟨_, _, rfl, run_takeDeferred hK, ?_⟩⟩
    exact ⟨_, results_none rfl _ _ _, ⟨_, rfl⟩, .inl ⟨_, rfl, HJJ.out⟩⟩
  case hstop =>
    rintro D cd pre W' hD hp ⟨rfl, hj⟩ hK
    have HJJ := hx (HJX.out _ _ _ hj (keptN_put (B := W.heap.size) W' D _ (.deferred none) (by have h1 := HLT.out.1; omega) hK rfl))
    clear hj
    gi_wp2
    refine ⟨by simp, .inl ⟨_, _, rfl, run_takeDeferred hK, ?_⟩⟩
    exact ⟨_, results_none rfl _ _ _, ⟨_, rfl⟩, .inr ⟨_, hp, HJJ.out⟩⟩
end Go.Proofs.Yteobkcmfpmolmaa
