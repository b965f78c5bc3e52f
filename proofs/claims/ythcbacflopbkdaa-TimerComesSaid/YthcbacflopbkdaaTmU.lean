/- The calls of a script at both timers. -/
import Derived.Test.YthcbacflopbkdaaTmS
namespace Go.Proofs.Ythcbacflopbkdaa
open Go Go.RowKit Go.Shelf
theorem infoOp : (Try.prog.info? 39).map (·.size) = some 3 := by kernel_rfl
set_option maxRecDepth 100000 in
set_option maxHeartbeats 12000000 in
theorem tplayed_any (room : Int) (a : Option Addr) (len cap : Nat) (w : World) (hA : Ops w a len cap) :
    Calls Try.prog 11 #[.int .i64 room, .slice a len cap] w (PlP w room) := by
  generalize hPP : PlP w room = PP
  have HPP := hx hPP
  have HA := hx hA
  have hz := zeroRSet
  have HB := hx (Pb.new w room)
  clear hA hPP
  go_enter Try.func11, Try.ntmps11
  go_upto_region 2 with fail
  generalize (w.alloc (.cells #[.int .i64 0, .int .i64 0, .slice none 0 0] 34)).alloc (.cells #[.int .i64 room, .int .i64 0, .slice none 0 0] 34) = W at *
  by_cases g1 : room < 1
  · go_upto_region 3 with fail
    have cs0 := HB.out.b1.cell (i := 0) (v := .int .i64 room) rfl
    have cs1 := HB.out.b1.cell (i := 1) (v := .int .i64 0) rfl
    have cs2 := HB.out.b1.cell (i := 2) (v := .slice none 0 0) rfl
    have ct0 := HB.out.b0.cell (i := 0) rfl
    have ct1 := HB.out.b0.cell (i := 1) rfl
    have ct2 := HB.out.b0.cell (i := 2) rfl
    have hf := HB.out.b0.free
    have BF := hx (show Blk _ (w.heap.size) (set3 room 0 (.slice none 0 0)) 34 from (((HB.out.b0.set 0 (.int .i64 room)).set 1 (.int .i64 0)).set 2 (.slice none 0 0)).drew)
    have KW := ((((Kept.refl [w.heap.size] W).setCell (p := ⟨w.heap.size, 0, none⟩) (.inl (by simp)) (.int .i64 room)).setCell (p := ⟨w.heap.size, 1, none⟩) (.inl (by simp)) (.int .i64 0)).setCell (p := ⟨w.heap.size, 2, none⟩) (.inl (by simp)) (.slice none 0 0)).drew
    have KF := hx (HB.out.k.trans KW (fun _ h => h) (fun x h => by simp at h; right; omega))
    clear KW
    go_region
    go_wp2_with fail
    refine bodyPost_ret (ret_tct rfl _ w.heap.size _ _ _ _ _ rfl rfl rfl BF.out Try.underlying34 rfl infoSet) rfl ?_
    rw [← HPP.out]
    exact .inl ⟨rfl, KF.out⟩
  by_cases g2 : 40 < room
  · go_upto_region 3 with fail
    have cs0 := HB.out.b1.cell (i := 0) (v := .int .i64 room) rfl
    have cs1 := HB.out.b1.cell (i := 1) (v := .int .i64 0) rfl
    have cs2 := HB.out.b1.cell (i := 2) (v := .slice none 0 0) rfl
    have ct0 := HB.out.b0.cell (i := 0) rfl
    have ct1 := HB.out.b0.cell (i := 1) rfl
    have ct2 := HB.out.b0.cell (i := 2) rfl
    have hf := HB.out.b0.free
    have BF := hx (show Blk _ (w.heap.size) (set3 room 0 (.slice none 0 0)) 34 from (((HB.out.b0.set 0 (.int .i64 room)).set 1 (.int .i64 0)).set 2 (.slice none 0 0)).drew)
    have KW := ((((Kept.refl [w.heap.size] W).setCell (p := ⟨w.heap.size, 0, none⟩) (.inl (by simp)) (.int .i64 room)).setCell (p := ⟨w.heap.size, 1, none⟩) (.inl (by simp)) (.int .i64 0)).setCell (p := ⟨w.heap.size, 2, none⟩) (.inl (by simp)) (.slice none 0 0)).drew
    have KF := hx (HB.out.k.trans KW (fun _ h => h) (fun x h => by simp at h; right; omega))
    clear KW
    go_region
    go_wp2_with fail
    refine bodyPost_ret (ret_tct rfl _ w.heap.size _ _ _ _ _ rfl rfl rfl BF.out Try.underlying34 rfl infoSet) rfl ?_
    rw [← HPP.out]
    exact .inl ⟨rfl, KF.out⟩
  by_cases g3 : 80 < (len : Int)
  · go_upto_region 3 with fail
    have cs0 := HB.out.b1.cell (i := 0) (v := .int .i64 room) rfl
    have cs1 := HB.out.b1.cell (i := 1) (v := .int .i64 0) rfl
    have cs2 := HB.out.b1.cell (i := 2) (v := .slice none 0 0) rfl
    have ct0 := HB.out.b0.cell (i := 0) rfl
    have ct1 := HB.out.b0.cell (i := 1) rfl
    have ct2 := HB.out.b0.cell (i := 2) rfl
    have hf := HB.out.b0.free
    have BF := hx (show Blk _ (w.heap.size) (set3 room 0 (.slice none 0 0)) 34 from (((HB.out.b0.set 0 (.int .i64 room)).set 1 (.int .i64 0)).set 2 (.slice none 0 0)).drew)
    have KW := ((((Kept.refl [w.heap.size] W).setCell (p := ⟨w.heap.size, 0, none⟩) (.inl (by simp)) (.int .i64 room)).setCell (p := ⟨w.heap.size, 1, none⟩) (.inl (by simp)) (.int .i64 0)).setCell (p := ⟨w.heap.size, 2, none⟩) (.inl (by simp)) (.slice none 0 0)).drew
    have KF := hx (HB.out.k.trans KW (fun _ h => h) (fun x h => by simp at h; right; omega))
    clear KW
    go_region
    go_wp2_with fail
    refine bodyPost_ret (ret_tct rfl _ w.heap.size _ _ _ _ _ rfl rfl rfl BF.out Try.underlying34 rfl infoSet) rfl ?_
    rw [← HPP.out]
    exact .inl ⟨rfl, KF.out⟩
  have HG := hx (show 1 ≤ room ∧ room ≤ 40 ∧ len ≤ 80 by omega)
  clear hz
  go_wp2_with fail
  refine (tnew_any room W HG.out.1 (by have h := HG.out.2; omega)).mono ?_
  rintro e w1 ⟨rfl, hs1, hk1⟩
  have HBL := hx (HB.out.kept hk1)
  have HQ := hx (show DoT w w1 W.heap.size (.slice none 0 0) room 0 0 [] [] none 0 0 from ⟨HB.out.k.trans0 hk1, HB.out.k.size, fun g hg => by simp [Value.ownBlock] at hg, hs1, Tp.nil, L2.nil _ _ _, rfl, Nat.le_refl _, by have h := HG.out.1; simp; omega⟩)
  clear HB hs1 hk1
  go_wp2_with fail
  generalize W.heap.size = q at *
  clear g1 g2 g3
  go_loopw [10] (fun iv wr => ∃ (i : Nat) (v : Value) (now no : Int) (h s : List En) (b : Option Addr) (n c : Nat), i ≤ len ∧ iv = .int .i64 i ∧ Pb w wr room now (.slice b n c) ∧ DoT w wr q v room now no h s b n c ∧ no ≤ i) (fun iv _ => len - (intOf iv).toNat)
  case atStart => exact ⟨0, _, 0, 0, _, _, none, 0, 0, by omega, rfl, HBL.out, HQ.out, by omega⟩
  case round =>
    clear HBL HQ
    obtain ⟨i, v, now, no, h, s, b, n, c, hi, rfl, hb, hd, hno⟩ := hrel
    have HBL := hx hb
    have HD := hx hd
    have HNO := hx hno
    clear hb hd hno
    by_cases hlt : i < len
    · have hj1 : (i : Int) < (len : Int) := by omega
      have hj0 : (0 : Int) ≤ (i : Int) := by omega
      obtain ⟨bo, off, x1, x2, x3, rfl, hr⟩ := HA.out.hcell i hlt
      have q0 : w.cell? ⟨bo, off + i * 3, none⟩ = some (.int .i64 x1) := hr 0 (.int .i64 x1) rfl
      have q1 := hr 1 (.int .i64 x2) rfl
      have q2 := hr 2 (.int .i64 x3) rfl
      have HBO := hx (block_lt_of_cell q0)
      have HOC := hx (fun w3 (hk : Kept [] w w3) => And.intro (kept_cell hk q0) (And.intro (kept_cell hk q1) (kept_cell hk q2)))
      clear hr q0 q1 q2
      have HSW := hx HBL.out.size
      have HS := hx (show ∀ (bs : List Nat) (w3 w4 : World), (w3.cell? ⟨w.heap.size + 1, 0, none⟩ = some (.int .i64 room) ∧ w3.cell? ⟨w.heap.size + 1, 1, none⟩ = some (.int .i64 now) ∧ w3.cell? ⟨w.heap.size + 1, 2, none⟩ = some (.slice b n c) ∧ w3.cell? ⟨bo, off + i * 3, none⟩ = some (.int .i64 x1) ∧ w3.cell? ⟨bo, off + i * 3 + 1, none⟩ = some (.int .i64 x2) ∧ w3.cell? ⟨bo, off + i * 3 + 2, none⟩ = some (.int .i64 x3)) → Kept bs w3 w4 → w.heap.size + 1 ∉ bs → bo ∉ bs → (w4.cell? ⟨w.heap.size + 1, 0, none⟩ = some (.int .i64 room) ∧ w4.cell? ⟨w.heap.size + 1, 1, none⟩ = some (.int .i64 now) ∧ w4.cell? ⟨w.heap.size + 1, 2, none⟩ = some (.slice b n c) ∧ w4.cell? ⟨bo, off + i * 3, none⟩ = some (.int .i64 x1) ∧ w4.cell? ⟨bo, off + i * 3 + 1, none⟩ = some (.int .i64 x2) ∧ w4.cell? ⟨bo, off + i * 3 + 2, none⟩ = some (.int .i64 x3)) from fun bs w3 w4 ⟨h1, h2, h3, h4, h5, h6⟩ hk hb8 hb5 => by
        have hc : ∀ {p : Addr} {v : Value}, w3.cell? p = some v → p.block ∉ bs → w4.cell? p = some v := fun {p v} h hn => by rw [hk.cell (block_lt_of_cell h) hn]; exact h
        exact ⟨hc h1 hb8, hc h2 hb8, hc h3 hb8, hc h4 hb5, hc h5 hb5, hc h6 hb5⟩)
      have HDA := hx (fun W1 (hk : Kept [] wr W1) => doT_any (HD.out.kept hk) x1 x2 x3 (by have h1 := HD.out.hr; have h2 := HG.out; have h3 := HD.out.hn; omega) (by have h1 := HNO.out; have h2 := HG.out; omega))
      have HAF := hx (fun W1 (hk : Kept [] wr W1) e w5 (hS : DoTP w W1 q v room no e w5) => by
        obtain ⟨v', now', no', h', s', a', n', c', g1, g2, g3, g4⟩ := hS
        have hpb := (HBL.out.kept hk).ts (HD.out.kept hk).ts g4 g2.k
        have ho := HOC.out w5 g2.k
        exact (⟨v', now', no', h', s', a', n', c', g1, hx g2, hx g3, hx hpb, hx ⟨hpb.b1.cell (i := 0) rfl, hpb.b1.cell (i := 1) rfl, hpb.b1.cell (i := 2) rfl, ho.1, ho.2.1, ho.2.2⟩, hx (fun t (ht : Blk W1 t (set3 0 0 (.slice none 0 0)) 34) => blk_k ht (HD.out.kept hk).ts g4 (by decide) (by decide))⟩ : ∃ v' now' no' h' s' a' n' c', e = .returned (.tuple #[.agg #[.int .i64 room, .int .i64 now', .slice a' n' c'], .bool true]) ∧ Hx (DoT w w5 q v' room now' no' h' s' a' n' c') ∧ Hx (no' ≤ no + 1) ∧ Hx (Pb w w5 room now (.slice b n c)) ∧ Hx (w5.cell? ⟨w.heap.size + 1, 0, none⟩ = some (.int .i64 room) ∧ w5.cell? ⟨w.heap.size + 1, 1, none⟩ = some (.int .i64 now) ∧ w5.cell? ⟨w.heap.size + 1, 2, none⟩ = some (.slice b n c) ∧ w5.cell? ⟨bo, off + i * 3, none⟩ = some (.int .i64 x1) ∧ w5.cell? ⟨bo, off + i * 3 + 1, none⟩ = some (.int .i64 x2) ∧ w5.cell? ⟨bo, off + i * 3 + 2, none⟩ = some (.int .i64 x3)) ∧ Hx (∀ t, Blk W1 t (set3 0 0 (.slice none 0 0)) 34 → Blk w5 t (set3 0 0 (.slice none 0 0)) 34)))
      go_upto_region 10 with fail
      go_cut [11, 12] from 39 to 64 (fun s11 s12 wx => R12 w wx q room now no (.slice b n c) s11 s12)
      case first =>
        have hSS : (wr.cell? ⟨w.heap.size + 1, 0, none⟩ = some (.int .i64 room) ∧ wr.cell? ⟨w.heap.size + 1, 1, none⟩ = some (.int .i64 now) ∧ wr.cell? ⟨w.heap.size + 1, 2, none⟩ = some (.slice b n c) ∧ wr.cell? ⟨bo, off + i * 3, none⟩ = some (.int .i64 x1) ∧ wr.cell? ⟨bo, off + i * 3 + 1, none⟩ = some (.int .i64 x2) ∧ wr.cell? ⟨bo, off + i * 3 + 2, none⟩ = some (.int .i64 x3)) := ⟨HBL.out.b1.cell (i := 0) rfl, HBL.out.b1.cell (i := 1) rfl, HBL.out.b1.cell (i := 2) rfl, (HOC.out _ HD.out.k).1, (HOC.out _ HD.out.k).2.1, (HOC.out _ HD.out.k).2.2⟩
        have HN8 := hx (show w.heap.size + 1 ≠ wr.heap.size ∧ bo ≠ wr.heap.size by have h1 := HSW.out; have h2 := HBO.out; simp only at h2; omega)
        have hzr := zeroRSet
        go_region_held3 (fun w3 => w3.cell? ⟨w.heap.size + 1, 0, none⟩ = some (.int .i64 room) ∧ w3.cell? ⟨w.heap.size + 1, 1, none⟩ = some (.int .i64 now) ∧ w3.cell? ⟨w.heap.size + 1, 2, none⟩ = some (.slice b n c) ∧ w3.cell? ⟨bo, off + i * 3, none⟩ = some (.int .i64 x1) ∧ w3.cell? ⟨bo, off + i * 3 + 1, none⟩ = some (.int .i64 x2) ∧ w3.cell? ⟨bo, off + i * 3 + 2, none⟩ = some (.int .i64 x3)) (first | exact hSS | exact HS.out [] _ _ hSS ((Kept.refl _ _).drew) (by simp) (by simp) | assumption | exact HS.out [] _ _ hSS (((Kept.refl _ _).alloc _).drew) (by simp) (by simp) | exact HS.out [] _ _ hSS ((Kept.refl _ _).alloc _) (by simp) (by simp) | exact HS.out [wr.heap.size] _ _ hSS ((((Kept.refl [wr.heap.size] _).setCell (p := ⟨wr.heap.size, 0, none⟩) (.inl (by simp)) _).setCell (p := ⟨wr.heap.size, 1, none⟩) (.inl (by simp)) _).setCell (p := ⟨wr.heap.size, 2, none⟩) (.inl (by simp)) _) (by have := HN8.out; simp; omega) (by have := HN8.out; simp; omega))
          (first | (go_at_call 19; refine (HDA.out _ (by first | exact (Kept.refl _ _).drew | exact ((Kept.refl _ _).alloc _).drew)).mono ?_; rintro e w5 hS; have hAA := HAF.out _ (by first | exact (Kept.refl _ _).drew | exact ((Kept.refl _ _).alloc _).drew) _ _ hS; obtain ⟨v', now', no', h', s', a', n', c', rfl, HD5, HN5, HP5, HS5, HT5⟩ := hAA; clear hS; have hSS := HS5.out; first | (have B5 := hx (HT5.out wr.heap.size (Blk.new wr (set3 0 0 (.slice none 0 0)) _).drew); have ct0 := B5.out.cell (i := 0) rfl; have ct1 := B5.out.cell (i := 1) rfl; have ct2 := B5.out.cell (i := 2) rfl; have hf := B5.out.free) | skip))
        all_goals (go_wp2_with fail; go_meet)
        all_goals first | exact R12.late HD5.out HN5.out HP5.out | exact R12.early HD5.out HN5.out HP5.out B5.out HSW.out
      case rest =>
        obtain ⟨v', now', no', h', s', a', n', c', t, rfl, rfl, hd', hn', hB, ht, hP⟩ := hcut
        have HD3 := hx hd'
        have HP3 := hx hP
        have HB3 := hx hB
        have HT3 := hx (And.intro hn' ht)
        have HSM := hx (tsame_any q v' room now' no' room h' s' a' n' c' wc HD3.out.ts HD3.out.tp HD3.out.ls HD3.out.hn (by have h1 := HD3.out.hr; have h2 := HG.out; have h3 := HD3.out.hn; omega))
        clear hd' hP hB ht hn' HBL HD HOC HS HDA HAF
        have c0 := HB3.out.cell (i := 0) (v := .int .i64 room) rfl
        have c1 := HB3.out.cell (i := 1) (v := .int .i64 now') rfl
        have c2 := HB3.out.cell (i := 2) (v := .slice a' n' c') rfl
        go_wp2_with fail
        refine HSM.out.mono ?_
        rintro e w5 ⟨rfl, hk5⟩
        have HD4 := hx (HD3.out.kept hk5)
        have HP4 := hx (HP3.out.kept hk5)
        have HB4 := hx (hk5.blk HB3.out (by simp))
        clear hk5 HD3 HP3 HB3 HSM c0 c1 c2
        have hl80 : len ≤ 80 := HG.out.2.2
        have hnr : n' ≤ 900 := by have h1 := HD4.out.hr; have h2 := HG.out; have h3 := HD4.out.hn; omega
        go_wp2_with (first
          | refine load_blk rfl 34 (.tmp 11) rfl t rfl 34 _ _ HB4.out Try.underlying34 rfl infoSet ?_
          | (refine store_blk rfl 34 (.tmp 7) (.tmp 64) rfl (w.heap.size + 1) rfl 34 _ (set3 room now' (.slice a' n' c')) rfl HP4.out.b1 rfl infoSet (by intro x hx; simp at hx; rcases hx with rfl | rfl | rfl <;> rfl) ?_
             intro w9 hb9 hk9; have HF := hx (And.intro (HP4.out.next hb9 hk9) (HD4.out.put HP4.out.b1 (by omega) hk9)); clear hb9 hk9))
        go_wp2
        go_roundw
        case rel => exact ⟨i + 1, v', now', no', h', s', a', n', c', by omega, by go_num, HF.out.1, HF.out.2, by have h1 := HT3.out.1; have h2 := HNO.out; omega⟩
        case measure => simp [intOf] <;> omega
    · have hj1 : ¬ (i : Int) < (len : Int) := by omega
      clear HA
      go_upto_region 14 with fail
      have cs0 := HBL.out.b1.cell (i := 0) (v := .int .i64 room) rfl
      have cs1 := HBL.out.b1.cell (i := 1) (v := .int .i64 now) rfl
      have cs2 := HBL.out.b1.cell (i := 2) (v := .slice b n c) rfl
      have ct0 := HBL.out.b0.cell (i := 0) rfl
      have ct1 := HBL.out.b0.cell (i := 1) rfl
      have ct2 := HBL.out.b0.cell (i := 2) rfl
      have hf := HBL.out.b0.free
      have BF := hx (show Blk _ (w.heap.size) (set3 room now (.slice b n c)) 34 from (((HBL.out.b0.set 0 (.int .i64 room)).set 1 (.int .i64 now)).set 2 (.slice b n c)).drew)
      have KW := ((((Kept.refl [w.heap.size] wr).setCell (p := ⟨w.heap.size, 0, none⟩) (.inl (by simp)) (.int .i64 room)).setCell (p := ⟨w.heap.size, 1, none⟩) (.inl (by simp)) (.int .i64 now)).setCell (p := ⟨w.heap.size, 2, none⟩) (.inl (by simp)) (.slice b n c)).drew
      have DF := hx (HD.out.put HBL.out.b0 (by omega) KW)
      clear KW
      go_region
      go_wp2_with fail
      refine bodyPost_ret (ret_tct rfl _ w.heap.size _ _ _ _ _ rfl rfl rfl BF.out Try.underlying34 rfl infoSet) rfl ?_
      rw [← HPP.out]
      exact .inr ⟨HG.out.1, HG.out.2.1, q, v, now, no, h, s, b, n, c, rfl, DF.out, by have h1 := HNO.out; have h2 := HG.out.2.2; omega⟩
end Go.Proofs.Ythcbacflopbkdaa
