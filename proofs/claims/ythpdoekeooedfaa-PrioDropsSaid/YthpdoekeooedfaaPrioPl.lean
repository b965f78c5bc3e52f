/- The calls of a script at both queues. Printed by k/gen_prp.py. -/
import Derived.Test.YthpdoekeooedfaaPrioDo
import Derived.Test.YthpdoekeooedfaaPrioOq
namespace Go.Proofs.Ythpdoekeooedfaa
open Go Go.RowKit Go.Shelf
attribute [local go_sem] Oper.semAt_some
set_option maxRecDepth 100000 in
set_option maxHeartbeats 12000000 in
theorem played_any (room : Int) (a : Option Addr) (len cap : Nat) (w : World) (hA : Ops w a len cap) :
    Calls Try.prog 15 #[.int .i64 room, .slice a len cap] w (PlP w room) := by
  generalize hPP : PlP w room = PP
  have HPP := hx hPP
  have HA := hx hA
  have hz := zeroQ
  have HB := hx (Pb.new w room)
  clear hA hPP
  go_enter Try.func15, Try.ntmps15
  go_upto_region 2 with fail
  generalize (w.alloc (.cells #[.int .i64 0, .slice none 0 0] 41)).alloc (.cells #[.int .i64 room, .slice none 0 0] 41) = W at *
  by_cases g1 : room < 1
  · go_upto_region 3 with fail
    have cs0 := HB.out.b1.cell (i := 0) (v := .int .i64 room) rfl
    have cs1 := HB.out.b1.cell (i := 1) (v := .slice none 0 0) rfl
    have ct0 := HB.out.b0.cell (i := 0) rfl
    have ct1 := HB.out.b0.cell (i := 1) rfl
    have hf := HB.out.b0.free
    have BF := hx (show Blk _ (w.heap.size) [.int .i64 room, .slice none 0 0] 41 from ((HB.out.b0.set 0 (.int .i64 room)).set 1 (.slice none 0 0)).drew)
    have KW := (((Kept.refl [w.heap.size] W).setCell (p := ⟨w.heap.size, 0, none⟩) (.inl (by simp)) (.int .i64 room)).setCell (p := ⟨w.heap.size, 1, none⟩) (.inl (by simp)) (.slice none 0 0)).drew
    have KF := hx (HB.out.k.trans KW (fun _ h => h) (fun x h => by simp at h; right; omega))
    clear KW
    go_region
    go_wp2_with fail
    refine bodyPost_ret (ret_tct rfl _ w.heap.size _ _ _ _ _ rfl rfl rfl BF.out Try.underlying41 rfl infoQ) rfl ?_
    rw [← HPP.out]
    exact .inl ⟨rfl, KF.out⟩
  by_cases g2 : 40 < room
  · go_upto_region 3 with fail
    have cs0 := HB.out.b1.cell (i := 0) (v := .int .i64 room) rfl
    have cs1 := HB.out.b1.cell (i := 1) (v := .slice none 0 0) rfl
    have ct0 := HB.out.b0.cell (i := 0) rfl
    have ct1 := HB.out.b0.cell (i := 1) rfl
    have hf := HB.out.b0.free
    have BF := hx (show Blk _ (w.heap.size) [.int .i64 room, .slice none 0 0] 41 from ((HB.out.b0.set 0 (.int .i64 room)).set 1 (.slice none 0 0)).drew)
    have KW := (((Kept.refl [w.heap.size] W).setCell (p := ⟨w.heap.size, 0, none⟩) (.inl (by simp)) (.int .i64 room)).setCell (p := ⟨w.heap.size, 1, none⟩) (.inl (by simp)) (.slice none 0 0)).drew
    have KF := hx (HB.out.k.trans KW (fun _ h => h) (fun x h => by simp at h; right; omega))
    clear KW
    go_region
    go_wp2_with fail
    refine bodyPost_ret (ret_tct rfl _ w.heap.size _ _ _ _ _ rfl rfl rfl BF.out Try.underlying41 rfl infoQ) rfl ?_
    rw [← HPP.out]
    exact .inl ⟨rfl, KF.out⟩
  by_cases g3 : 80 < (len : Int)
  · go_upto_region 3 with fail
    have cs0 := HB.out.b1.cell (i := 0) (v := .int .i64 room) rfl
    have cs1 := HB.out.b1.cell (i := 1) (v := .slice none 0 0) rfl
    have ct0 := HB.out.b0.cell (i := 0) rfl
    have ct1 := HB.out.b0.cell (i := 1) rfl
    have hf := HB.out.b0.free
    have BF := hx (show Blk _ (w.heap.size) [.int .i64 room, .slice none 0 0] 41 from ((HB.out.b0.set 0 (.int .i64 room)).set 1 (.slice none 0 0)).drew)
    have KW := (((Kept.refl [w.heap.size] W).setCell (p := ⟨w.heap.size, 0, none⟩) (.inl (by simp)) (.int .i64 room)).setCell (p := ⟨w.heap.size, 1, none⟩) (.inl (by simp)) (.slice none 0 0)).drew
    have KF := hx (HB.out.k.trans KW (fun _ h => h) (fun x h => by simp at h; right; omega))
    clear KW
    go_region
    go_wp2_with fail
    refine bodyPost_ret (ret_tct rfl _ w.heap.size _ _ _ _ _ rfl rfl rfl BF.out Try.underlying41 rfl infoQ) rfl ?_
    rw [← HPP.out]
    exact .inl ⟨rfl, KF.out⟩
  have HG := hx (show 1 ≤ room ∧ room ≤ 40 ∧ len ≤ 80 by omega)
  go_wp2_with fail
  refine (new_any room W HG.out.1 (by have h := HG.out.2; omega)).mono ?_
  rintro e w1 ⟨rfl, hb1, hk1⟩
  have HBL := hx (HB.out.kept hk1)
  have HQ := hx (show DoS [] w w1 W.heap.size (.slice none 0 0) room 0 [] [] none 0 0 from DoS.mk ⟨HB.out.k.trans0 hk1, .inr HB.out.k.size, fun g hg => by simp [Value.ownBlock] at hg⟩ (Qs.new hb1) Rp.nil ⟨fun i hi => by simp at hi, fun h => absurd rfl h⟩ rfl (by omega) (by have h := HG.out.1; omega))
  clear HB hb1 hk1
  go_wp2_with fail
  generalize W.heap.size = q0 at *
  clear g1 g2 g3
  go_loopw [8, 10] (fun v8 iv wr => ∃ (i q : Nat) (v : Value) (T : Int) (h s : List It) (b : Option Addr) (n c : Nat), i ≤ len ∧ v8 = .pointer (some ⟨q, 0, none⟩) ∧ iv = .int .i64 i ∧ Pb w wr room (.slice b n c) ∧ DoS [] w wr q v room T h s b n c ∧ 0 ≤ T ∧ T ≤ i) (fun _ iv _ => len - (intOf iv).toNat)
  case atStart => exact ⟨0, q0, _, 0, [], [], none, 0, 0, by omega, rfl, rfl, HBL.out, HQ.out, by omega, by omega⟩
  case round =>
    clear HBL HQ
    obtain ⟨i, q, v, T, h, s, b, n, c, hi, rfl, rfl, hb, hd, ht0, ht1⟩ := hrel
    have HBL := hx hb
    have HD := hx hd
    have HT := hx (And.intro ht0 ht1)
    clear hb hd ht0 ht1
    by_cases hlt : i < len
    · have hj1 : (i : Int) < (len : Int) := by omega
      obtain ⟨bo, off, x1, x2, x3, rfl, hr⟩ := (HA.out.kept HD.out.qw.kept).hcell i hlt
      have o0 : wr.cell? ⟨bo, off + i * 3, none⟩ = some (.int .i64 x1) := hr 0 (.int .i64 x1) rfl
      have o1 := hr 1 (.int .i64 x2) rfl
      have o2 := hr 2 (.int .i64 x3) rfl
      have KA := (Kept.refl [] wr).alloc (.cells #[.int .i64 0, .slice none 0 0] 41)
      have p0 := kept_cell KA o0
      have p1 := kept_cell KA o1
      have p2 := kept_cell KA o2
      clear hr
      have c0 := HBL.out.b1.cell (i := 0) rfl
      have c1 := HBL.out.b1.cell (i := 1) rfl
      have p3 := kept_cell KA c0
      have p4 := kept_cell KA c1
      clear KA
      have HDA := hx (fun W1 (hk : Kept [] wr W1) => do_all (HD.out.kept hk) x1 x2 x3 (by have h1 := HD.out.hr; have h2 := HG.out; omega) HT.out.1 (by have h1 := HT.out.2; have h2 := HG.out; omega))
      have HSW := hx HBL.out.size
      go_upto_region 10 with fail
      go_cut [11, 12, 13] from 40 to 71 (fun s11 s12 s13 wx => R12 w wx room T (.slice b n c) s11 s12 s13)
      case first =>
        go_region_with (go_at_call 20; refine (HDA.out _ (by first | exact (Kept.refl [] wr).drew | exact (Kept.refl [] wr).drew.alloc _)).mono ?_; rintro e w2 ⟨⟨q', v', T', h', s', a', n', c', rfl, hd', ht1, ht2⟩, hk2⟩; have HD2 := hx (And.intro hd' (And.intro ht1 ht2)); first | (have B12 : Hx (Blk w2 wr.heap.size [.int .i64 0, .slice none 0 0] 41) := hx ((Blk.new wr.drew [.int .i64 0, .slice none 0 0] 41).qs (HD.out.kept ((Kept.refl [] wr).drew.alloc (.cells #[.int .i64 0, .slice none 0 0] 41))).qs hk2 (by decide) (by decide)); have b120 := B12.out.cell (i := 0) rfl; have b121 := B12.out.cell (i := 1) rfl; have b12f := B12.out.free; have HP2 := hx ((HBL.out.kept ((Kept.refl [] wr).drew.alloc (.cells #[.int .i64 0, .slice none 0 0] 41))).qs (HD.out.kept ((Kept.refl [] wr).drew.alloc (.cells #[.int .i64 0, .slice none 0 0] 41))).qs hk2 hd'.qw.kept)) | (have HP2 := hx ((HBL.out.kept (Kept.refl [] wr).drew).qs (HD.out.kept (Kept.refl [] wr).drew).qs hk2 hd'.qw.kept)))
        all_goals (go_wp2_with fail; go_meet)
        all_goals first | exact R12.late HD2.out HP2.out | exact R12.early HD2.out HP2.out B12.out HSW.out
      case rest =>
        obtain ⟨q', v', T', h', s', a', n', c', t, rfl, rfl, rfl, hd', ht1, ht2, hb', hB, ht⟩ := hcut
        have HD3 := hx hd'
        have HP3 := hx hb'
        have HB3 := hx hB
        have HT3 := hx (And.intro ht1 (And.intro ht2 ht))
        have HSM := hx (same_any q' v' room T' T' h' s' a' n' c' wc HD3.out.qs HD3.out.rp HD3.out.ls.1 HD3.out.hn (by have h1 := HD3.out.hr; have h2 := HG.out; omega))
        clear hd' hb' hB ht ht1 ht2 HBL HD c0 c1 o0 o1 o2 p0 p1 p2 p3 p4 HDA
        have c0 := HB3.out.cell (i := 0) (v := .int .i64 room) rfl
        have c1 := HB3.out.cell (i := 1) (v := .slice a' n' c') rfl
        go_wp2_with fail
        refine HSM.out.mono ?_
        rintro e w5 ⟨rfl, hk5⟩
        have HD4 := hx (HD3.out.kept hk5)
        have HP4 := hx (HP3.out.kept hk5)
        have HB4 := hx (hk5.blk HB3.out (by simp))
        clear hk5 HD3 HP3 HB3 HSM c0 c1
        go_upto_region 13 with fail
        have cs0 := HB4.out.cell (i := 0) (v := .int .i64 room) rfl
        have cs1 := HB4.out.cell (i := 1) (v := .slice a' n' c') rfl
        have ct0 := HP4.out.b1.cell (i := 0) rfl
        have ct1 := HP4.out.b1.cell (i := 1) rfl
        have hf := HP4.out.b1.free
        have BF := hx (show Blk _ (w.heap.size + 1) [.int .i64 room, .slice a' n' c'] 41 from ((HP4.out.b1.set 0 (.int .i64 room)).set 1 (.slice a' n' c')).drew)
        have KW := (((Kept.refl [w.heap.size + 1] w5).setCell (p := ⟨w.heap.size + 1, 0, none⟩) (.inl (by simp)) (.int .i64 room)).setCell (p := ⟨w.heap.size + 1, 1, none⟩) (.inl (by simp)) (.slice a' n' c')).drew
        have DF := hx (HD4.out.put HP4.out.b1 (by omega) KW)
        have PF := hx (HP4.out.next BF.out KW)
        clear KW
        have hn1 : ¬ t = w.heap.size + 1 := by have h1 := HT3.out.2.2; omega
        have hn2 : ¬ w.heap.size + 1 = t := by have h1 := HT3.out.2.2; omega
        have hl80 : len ≤ 80 := HG.out.2.2
        go_region
        go_wp2_with fail
        go_roundw
        case rel => exact ⟨i + 1, q', v', T', h', s', a', n', c', by omega, rfl, by go_num, PF.out, DF.out, by have h1 := HT3.out; have h2 := HT.out; omega, by have h1 := HT3.out; have h2 := HT.out; omega⟩
        case measure => simp [intOf] <;> omega
    · have hj1 : ¬ (i : Int) < (len : Int) := by omega
      clear HA
      go_upto_region 14 with fail
      have cs0 := HBL.out.b1.cell (i := 0) (v := .int .i64 room) rfl
      have cs1 := HBL.out.b1.cell (i := 1) (v := .slice b n c) rfl
      have ct0 := HBL.out.b0.cell (i := 0) rfl
      have ct1 := HBL.out.b0.cell (i := 1) rfl
      have hf := HBL.out.b0.free
      have BF := hx (show Blk _ (w.heap.size) [.int .i64 room, .slice b n c] 41 from ((HBL.out.b0.set 0 (.int .i64 room)).set 1 (.slice b n c)).drew)
      have KW := (((Kept.refl [w.heap.size] wr).setCell (p := ⟨w.heap.size, 0, none⟩) (.inl (by simp)) (.int .i64 room)).setCell (p := ⟨w.heap.size, 1, none⟩) (.inl (by simp)) (.slice b n c)).drew
      have DF := hx (HD.out.put HBL.out.b0 (by omega) KW)
      clear KW
      go_region
      go_wp2_with fail
      refine bodyPost_ret (ret_tct rfl _ w.heap.size _ _ _ _ _ rfl rfl rfl BF.out Try.underlying41 rfl infoQ) rfl ?_
      rw [← HPP.out]
      exact .inr ⟨HG.out.1, HG.out.2.1, q, v, T, h, s, b, n, c, rfl, DF.out, HT.out.1, by have h1 := HT.out.2; have h2 := HG.out.2.2; omega⟩
end Go.Proofs.Ythpdoekeooedfaa
