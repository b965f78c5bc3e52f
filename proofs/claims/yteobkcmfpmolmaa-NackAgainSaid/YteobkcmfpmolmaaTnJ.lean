/- The iterator over the timer's keys. -/
import Derived.Test.YteobkcmfpmolmaaTnI
import Derived.Test.YteobkcmfpmolmaaTnH
import Derived.Stop.RegionWithIn
namespace Go.Proofs.Yteobkcmfpmolmaa
open Go Go.RowKit Go.Shelf
attribute [local go_sem] Oper.semAt_some
theorem kept_below {B : Nat} {bs : List Nat} {A C : World} (h : Kept bs A C) (hb : ∀ b, b ∈ bs → B ≤ b) (hA : B ≤ A.heap.size) : Below B A C :=
  ⟨h.os, h.tape, h.output, h.size, fun k hk => h.block k (by omega) (fun hc => by have := hb k hc; omega)⟩
set_option maxHeartbeats 800000 in
theorem tall_any (q : Nat) (w : World) :
    Calls Try.prog 32 #[.pointer (some ⟨q, 0, none⟩)] w fun e w' => e = .returned (.func (.func 41) #[] #[.pointer (some ⟨w.heap.size, 0, none⟩)]) ∧ w' = w.alloc (.cells #[.pointer (some ⟨q, 0, none⟩)] 58) := by
  go_enter Try.func32, Try.ntmps32
  go_wp2
  go_ret
  exact ⟨rfl, rfl⟩
abbrev encL (now : Int) (x : En) : Array Value := #[.int .u32 x.key, .int .i64 (x.due - now)]
set_option maxRecDepth 100000 in
set_option maxHeartbeats 8000000 in
theorem tall_stops (n Bq q : Nat) (v : Value) (room now no : Int) (h s : List En) (p : Nat → TypeId → Prop) (w : World) (hB : Blk w Bq [.pointer (some ⟨q, 0, none⟩)] 58) (hs : Ts w q v room now no h) (hp : Tp h s now no) (hpB : ¬ p Bq 58) (hpq : ¬ p q 81) (hpe : ∀ b, w.heap.size ≤ b → ¬ p b 78) (hb : h.length ≤ 1000000) (hn : 1 ≤ n) :
    SeqY Fence.wide n Try.prog 41 #[.pointer (some ⟨Bq, 0, none⟩)] (encL now) (KpP p) (fun xs => xs = s) (fun pre => pre <+: s) s.length w := fun k J Jx W hW hJ hJx hY h0 => by
  have hkW := Kept.ofBelow hW
  have HB := hx (hkW.blk hB (by simp))
  have HS := hx (hs.kept hkW)
  have HJ := hx hJ
  have HY := hx hY
  have H0 := hx h0
  have HPB := hx hpB
  have HPQ := hx hpq
  have HPE := hx (fun b (h : W.heap.size ≤ b) => hpe b (Nat.le_trans hkW.size h))
  have HP := hx hp
  have HL := hx hb
  have HSL := hx hp.len
  have cB := HB.out.cell (i := 0) rfl
  have c3 := HS.out.hq.cell (i := 3) rfl
  have HBL := hx HB.out.lt
  obtain ⟨a, c, rfl⟩ := own_slice hs.own
  have BV := hx (Blk.new W [.slice a h.length c] 79)
  have HST := hx (sortedf_any W.heap.size (.slice a h.length c) h s (W.alloc (.cells #[.slice a h.length c] 79)) BV.out (World.ownsRow.alloc HS.out.own _) hp.perm hp.sorted hp.nos hb)
  clear hW hkW hB hs hJ hY h0 hpB hpq hpe hJx hp hb
  refine callsIn_of_wp Try.func41 rfl trivial ?_ rfl
  simp only [Try.ntmps41, List.size_toArray, List.length_cons, List.length_nil, Nat.reduceAdd, Nat.reduceSub, Array.replicate_succ, Array.replicate_zero, List.push_toArray, List.append_toArray, List.nil_append, List.cons_append]
  gi_wp2
  refine ⟨trivial, (callsIn_wide.2 (values_any (.slice a h.length c) W ⟨_, _, _, rfl⟩)).mono ?_⟩
  rintro e w1 ⟨rfl, rfl⟩
  gi_wp2
  refine ⟨trivial, (callsIn_wide.2 HST.out).mono ?_⟩
  rintro e w2 ⟨v', rfl, ho2, hk2⟩
  rw [World.size_alloc] at ho2
  have HK2 := hx (((Kept.refl [] W).alloc (.cells #[.slice a h.length c] 79)).trans0 hk2)
  have HO2 := hx ho2
  have HJ2 := hx (HJ.out.1 W w2 H0.out (kept_below HK2.out (by simp) (Nat.le_refl _)))
  have HB2 := hx (HK2.out.blk HB.out (by simp))
  have HS2 := hx (HS.out.kept HK2.out)
  obtain ⟨a', c', rfl⟩ := own_slice ho2
  have HPG := hx (fun g (hg : (Value.slice a' s.length c').ownBlock = some g) => HPE.out g (by have := (HO2.out.lt g hg).1; omega))
  clear ho2 hk2 HST BV cB c3 HB HS HK2 H0
  gi_wp2
  gi_loopw [14] (fun iv wr => ∃ (pre rest : List En), s = pre ++ rest ∧ iv = .int .i64 (pre.length : Int) ∧ J pre wr ∧ Blk wr Bq [.pointer (some ⟨q, 0, none⟩)] 58 ∧ Blk wr q [.int .i64 room, .int .i64 now, .int .i64 no, .slice a h.length c] 81 ∧ wr.ownsRow (W.heap.size + 1) 78 3 (.slice a' s.length c') s.length (cel s)) (fun iv _ => s.length - (intOf iv).toNat)
  case atStart => exact ⟨[], s, rfl, rfl, HJ2.out, HB2.out, HS2.out.hq, HO2.out⟩
  case round =>
    clear HJ2 HB2 HS2 HO2
    obtain ⟨pre, rest, hl, rfl, hj, hb2, hq2, ho2⟩ := hrel
    have HBB := hx hb2
    have HQQ := hx hq2
    have HOO := hx ho2
    have HJJ := hx hj
    have HLL := hx hl
    clear hb2 ho2 hj hq2
    have hsl : s.length ≤ 1000000 := by have h1 := HSL.out; have h2 := HL.out; omega
    cases rest with
    | nil =>
      have hlen : pre.length = s.length := by rw [hl]; simp
      have hlt : ¬ (pre.length : Int) < (s.length : Int) := by omega
      clear hl
      gi_wp2
      go_end0
      have e : pre = s := by rw [HLL.out]; simp
      exact ⟨⟨_, rfl⟩, .inl (e ▸ HJJ.out)⟩
    | cons x rest =>
      have hlen : pre.length < s.length := by rw [hl]; simp
      have hlt : (pre.length : Int) < (s.length : Int) := by omega
      have hx0 : s.getD pre.length en0 = x := by rw [hl]; simp [List.getD]
      have hdx := HP.out.due x (by rw [hl]; simp)
      have hn0 := HP.out.now0
      have hn1 := HP.out.now1
      have hsub : IntKind.i64.wrap (x.due - now) = x.due - now := IntWalk.i64_in _ (by omega)
      have hown := HOO.out
      obtain ⟨_, ⟨_, h0⟩ | ⟨g, cap, cur, he, _, hg, _⟩⟩ := hown
      · omega
      simp only [Value.slice.injEq, true_and] at he
      obtain ⟨rfl, rfl⟩ := he
      have hcc := cel_cells HOO.out
      have e0 := hcc pre.length hlen 0 _ rfl
      have e1 := hcc pre.length hlen 1 _ rfl
      have e2 := hcc pre.length hlen 2 _ rfl
      rw [getD_in hlen, hx0] at e0 e1 e2
      simp only [Nat.zero_add, Nat.add_zero] at e0 e1 e2
      have HKA := hx ((Kept.refl [] wr).alloc (.cells #[.int .u32 x.key, .int .i64 x.due, .int .i64 x.no] 78))
      have hp0 : (0 : Int) ≤ (pre.length : Int) := by omega
      have hJ2 := HJ.out.2 pre wr _ HJJ.out (KeptN.of HKA.out.drew)
      obtain ⟨fn, tmps, assign, body, hy, hR⟩ := HY.out pre x _ hJ2 hlen
      dsimp only [encL] at hy
      have HRR := hx (hR.mono (R' := fun e C => ∃ b, e = .returned (.bool b) ∧ Hx ((b = true ∧ J (pre ++ [x]) C ∧ KpP p (wr.alloc (.cells #[.int .u32 x.key, .int .i64 x.due, .int .i64 x.no] 78)).drew C) ∨ (b = false ∧ Jx (pre ++ [x]) C))) (by
        rintro e C (⟨rfl, h1, h2⟩ | ⟨rfl, h1⟩)
        · exact ⟨true, rfl, ⟨.inl ⟨rfl, h1, h2⟩⟩⟩
        · exact ⟨false, rfl, ⟨.inr ⟨rfl, h1⟩⟩⟩))
      have d0 := (HBB.out.alloc (.cells #[.int .u32 x.key, .int .i64 x.due, .int .i64 x.no] 78)).cell (i := 0) rfl
      have d1 := (HQQ.out.alloc (.cells #[.int .u32 x.key, .int .i64 x.due, .int .i64 x.no] 78)).cell (i := 1) rfl
      clear hl hcc hx0 hg hJ2 hdx hn0 hn1 hR
      gi_wp2
      gi_region_with (refine HRR.out.mono ?_; rintro e W3 ⟨b, rfl, H3⟩)
      all_goals
        clear e0 e1 e2 d0 d1 HRR hsub
        rcases H3.out with ⟨rfl, hJ3, hk3⟩ | ⟨rfl, hx3⟩
        · have HB3 := hx (((HBB.out.alloc (.cells #[.int .u32 x.key, .int .i64 x.due, .int .i64 x.no] 78)).drew).kpp hk3 HPB.out)
          have HQ3 := hx (((HQQ.out.alloc (.cells #[.int .u32 x.key, .int .i64 x.due, .int .i64 x.no] 78)).drew).kpp hk3 HPQ.out)
          have HO3 := hx (own_kpp (A := (wr.alloc (.cells #[.int .u32 x.key, .int .i64 x.due, .int .i64 x.no] 78)).drew) (World.ownsRow.alloc HOO.out (.cells #[.int .u32 x.key, .int .i64 x.due, .int .i64 x.no] 78)) hk3 HPG.out)
          have HJ3 := hx hJ3
          clear hJ3 hk3 H3
          gi_wp2
          go_roundw
          case rel => exact ⟨pre ++ [x], rest, HLL.out.trans (by simp), by simp, HJ3.out, HB3.out, HQ3.out, HO3.out⟩
          case measure => simp [intOf] <;> omega
        · clear H3
          gi_wp2
          refine bodyPost_ret (results_none rfl _ _ _) rfl ?_
          exact ⟨⟨_, rfl⟩, .inr ⟨pre ++ [x], ⟨rest, (HLL.out.trans (by simp)).symm⟩, hx3⟩⟩
end Go.Proofs.Yteobkcmfpmolmaa
