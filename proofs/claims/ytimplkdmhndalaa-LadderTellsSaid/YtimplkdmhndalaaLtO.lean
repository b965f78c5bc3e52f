/- The law LadderTells. -/
import Derived.Test.YtimplkdmhndalaaLtN
namespace Go.Proofs.Ytimplkdmhndalaa
open Go Go.RowKit Go.Shelf
/-- A list of games, as it lies. -/
structure GmR (w : World) (a : Option Addr) (l : List (List UInt8 × List UInt8 × Int)) : Prop where
  at_ : ∀ (i : Nat) x, l[i]? = some x → ∃ g o, a = some ⟨g, o, none⟩ ∧ g < w.heap.size ∧ w.cell? ⟨g, o + i * 3, none⟩ = some (txt x.1) ∧ w.cell? ⟨g, o + i * 3 + 1, none⟩ = some (txt x.2.1) ∧ w.cell? ⟨g, o + i * 3 + 2, none⟩ = some (.int .i64 x.2.2)
theorem GmR.kept {w w' : World} {a : Option Addr} {l : List (List UInt8 × List UInt8 × Int)} (h : GmR w a l) (hk : Kept [] w w') : GmR w' a l :=
  ⟨fun i x hx => by
    obtain ⟨g, o, ha, hg, h0, h1, h2⟩ := h.at_ i x hx
    exact ⟨g, o, ha, Nat.lt_of_lt_of_le hg hk.size, by rw [hk.cell hg (by simp)]; exact h0, by rw [hk.cell hg (by simp)]; exact h1, by rw [hk.cell hg (by simp)]; exact h2⟩⟩
/-- Where the law's loop stands. -/
structure TlI (w W : World) (q : Nat) (v : Value) (a : Option Addr) (c : Nat) (told : Int) (h : List Ply) (n i : Nat) : Prop where
  ld : Ld W q v told h
  r5 : R5 W a h
  hc : h.length ≤ c
  gd : Gd h (i : Int)
  ln : h.length = n
  sm : sumM h = 1500 * (n : Int)
  tl : 0 ≤ told ∧ told ≤ (i : Int)
  k : Kept [] w W
  q0 : w.heap.size ≤ q
  v0 : ∀ b, v.ownBlock = some b → w.heap.size ≤ b
  dj : ∀ g o, a = some (⟨g, o, none⟩ : Addr) → g ≠ q ∧ v.ownBlock ≠ some g
theorem TlI.kept {w W W2 : World} {q : Nat} {v : Value} {a : Option Addr} {c : Nat} {told : Int} {h : List Ply} {n i : Nat} (s : TlI w W q v a c told h n i) (hk : Kept [] W W2) : TlI w W2 q v a c told h n i :=
  ⟨s.ld.kept hk, s.r5.kept hk, s.hc, s.gd, s.ln, s.sm, s.tl, s.k.trans0 hk, s.q0, s.v0, s.dj⟩
theorem R5.but {w w' : World} {bs : List Nat} {a : Option Addr} {l : List Ply} (h : R5 w a l) (hk : Kept bs w w') (hb : ∀ g o, a = some (⟨g, o, none⟩ : Addr) → g ∉ bs) : R5 w' a l :=
  ⟨fun i hi => by
    obtain ⟨g, o, ha, hg, hc⟩ := h.at_ i hi
    exact ⟨g, o, ha, Nat.lt_of_lt_of_le hg hk.size, fun k u hu => by rw [hk.cell hg (hb g o ha)]; exact hc k u hu⟩⟩
/-- A game at both. -/
theorem TlI.tell {w W W1 W2 : World} {q : Nat} {v : Value} {a a2 : Option Addr} {c c2 : Nat} {told : Int} {h : List Ply} {n i : Nat} (s : TlI w W q v a c told h n i) (x y : List UInt8) (e : Int)
    (hk1 : Kept [] W W1) (hr : R5 W1 a2 (tellP h x y e).1) (hc2 : (tellP h x y e).1.length ≤ c2) (ha : a2 = a ∨ ∀ g o, a2 = some (⟨g, o, none⟩ : Addr) → W.heap.size ≤ g)
    (hl : Ld W2 q v (if (tellP h x y e).2 = 0 then told + 1 else told) (tellP h x y e).1) (hk2 : Kept (q :: v.ownBlock.toList) W1 W2) :
    TlI w W2 q v a2 c2 (if (tellP h x y e).2 = 0 then told + 1 else told) (tellP h x y e).1 n (i + 1) := by
  have hdj : ∀ g o, a2 = some (⟨g, o, none⟩ : Addr) → g ≠ q ∧ v.ownBlock ≠ some g := by
    intro g o hg
    rcases ha with rfl | ha
    · exact s.dj g o hg
    · have h1 := ha g o hg
      have h2 := s.ld.hq.lt
      refine ⟨by omega, fun h3 => ?_⟩
      have h4 := (s.ld.own.lt g h3).2
      omega
  have hkk : Kept [] w W2 := (s.k.trans0 hk1).trans hk2 (ds := []) (fun _ h => h) (fun b hb => by
    rcases List.mem_cons.1 hb with rfl | hb
    · exact .inr s.q0
    · simp only [Option.mem_toList] at hb
      exact .inr (s.v0 b hb))
  refine ⟨hl, hr.but hk2 (fun g o hg hm => ?_), hc2, ?_, by rw [tellP_len]; exact s.ln, by rw [tellP_sum]; exact s.sm, ?_, hkk, s.q0, s.v0, hdj⟩
  · rcases List.mem_cons.1 hm with rfl | hm
    · exact (hdj _ o hg).1 rfl
    · simp only [Option.mem_toList] at hm
      exact (hdj g o hg).2 hm
  · have h1 := s.gd.tell x y e
    push_cast
    exact h1
  · have h1 := s.tl
    push_cast
    split <;> omega
theorem sumM_snoc {l : List Ply} {i : Nat} (hi : i < l.length) : sumM (l.take (i + 1)) = sumM (l.take i) + (l.getD i pl0).ma := by
  rw [List.take_add_one, List.getElem?_eq_getElem hi]
  unfold sumM
  rw [List.map_append, List.sum_append]
  simp [List.getD, hi]
theorem sumM_perm {a b : List Ply} (h : a.Perm b) : sumM a = sumM b := by
  unfold sumM
  induction h with
  | nil => rfl
  | cons x _ ih => simp only [List.map_cons, List.sum_cons]; rw [ih]
  | swap x y l => simp only [List.map_cons, List.sum_cons]; omega
  | trans _ _ h1 h2 => rw [h1, h2]
theorem sumM_take {l : List Ply} (hb : ∀ x ∈ l, 0 ≤ x.ma ∧ x.ma ≤ 4000) : ∀ {i : Nat}, i ≤ l.length → 0 ≤ sumM (l.take i) ∧ sumM (l.take i) ≤ 4000 * (i : Int)
  | 0, _ => by simp [sumM]
  | i + 1, hi => by
    have ih := sumM_take hb (i := i) (by omega)
    rw [sumM_snoc (by omega)]
    have hm : 0 ≤ (l.getD i pl0).ma ∧ (l.getD i pl0).ma ≤ 4000 := by
      rw [List.getD_eq_getElem?_getD, List.getElem?_eq_getElem (by omega)]
      exact hb _ (List.getElem_mem _)
    push_cast
    omega
theorem one_gm (a b : List UInt8) (e : Int) : ∀ u ∈ [txt a, txt b, .int .i64 e], u.oneCell' = true := by
  intro u hu
  simp only [List.mem_cons, List.not_mem_nil, or_false] at hu
  rcases hu with rfl | rfl | rfl <;> rfl
theorem newP_sum {l : List (List UInt8)} {h : List Ply} (hp : newP l = some h) : h.length = l.length ∧ sumM h = 1500 * (l.length : Int) := by
  unfold newP at hp
  by_cases hl : l.length < 2 ∨ 32 < l.length
  · rw [if_pos hl] at hp; cases hp
  · rw [if_neg hl] at hp
    have hm := addN_map hp
    rw [List.nil_append] at hm
    subst hm
    refine ⟨by simp, ?_⟩
    clear hp hl
    induction l with
    | nil => rfl
    | cons x l ih =>
      unfold sumM at *
      simp only [List.map_cons, List.sum_cons, List.length_cons]
      rw [ih]
      simp only [mkN]
      push_cast
      omega
set_option maxRecDepth 100000 in
set_option maxHeartbeats 25600000 in
theorem tells_law (an : Option Addr) (cn : Nat) (names : List (List UInt8)) (ag : Option Addr) (cg : Nat) (games : List (List UInt8 × List UInt8 × Int)) (w : World) (hn : NmR w an names) (hg : GmR w ag games) :
    Calls Try.prog 3 #[.slice an names.length cn, .slice ag games.length cg] w fun e w' => e = .returned (.bool true) ∧ Kept [] w w' := by
  have HA := hx (fun w1 => lawake_any w1)
  by_cases hbig : 60 < names.length
  · have hb : (60 : Int) < (names.length : Int) := by omega
    generalize names.length = n at *
    clear hn hg hbig
    go_enter Try.func3, Try.ntmps3
    go_wp2_with (go_at_call 4; refine (HA.out _).mono ?_; rintro e w1 ⟨rfl, rfl⟩)
    go_ret
    exact ⟨rfl, Kept.refl _ _⟩
  · have hb : ¬ (60 : Int) < (names.length : Int) := by omega
    have HN := hx (pnew_any an cn names w hn (by omega))
    have HM := hx (fun w1 (hk : Kept [] w w1) => rnew_any an cn names w1 (hn.kept hk) (by omega))
    have HG := hx hg
    have HPS := hx (fun h hp => newP_sum (l := names) (h := h) hp)
    have HGD := hx (fun h hp => newP_gd (l := names) (r := h) hp)
    generalize hln : names.length = n at *
    have h60 : n ≤ 60 := by omega
    clear hn hg hbig
    cases hp : newP names with
    | none =>
      rw [hp] at HN HM
      clear hp HPS HGD
      go_enter Try.func3, Try.ntmps3
      go_wp2_with (first
        | (go_at_call 4; refine (HA.out _).mono ?_; rintro e w1 ⟨rfl, rfl⟩)
        | (go_at_call 5; refine HN.out.mono ?_; rintro e w1 ⟨hk, rfl⟩; have K1 := hx hk; clear hk)
        | (go_at_call 6; refine (HM.out _ K1.out).mono ?_; rintro e w2 ⟨hk, v2, rfl, a2, n2, c2, rfl⟩; have K2 := hx (K1.out.trans0 hk); clear hk))
      go_ret
      exact ⟨rfl, K2.out⟩
    | some h =>
      have HS := hx (HPS.out h hp)
      have HD := hx (HGD.out h hp)
      rw [hp] at HN HM
      clear hp HPS HGD
      go_enter Try.func3, Try.ntmps3
      go_upto_region 9 with (first
        | (go_at_call 4; refine (HA.out _).mono ?_; rintro e w1 ⟨rfl, rfl⟩)
        | (go_at_call 5; refine HN.out.mono ?_; rintro e w1 ⟨hk, q, v, rfl, hld, hq0, hv0⟩; have K1 := hx hk; have L1 := hx (And.intro hld (And.intro hq0 hv0)); clear hk hld hq0 hv0)
        | (go_at_call 6; refine (HM.out _ K1.out).mono ?_; rintro e w2 ⟨hk, a2, c2, rfl, hc2, hr2, hf2⟩; have I2 := hx (show TlI w w2 q v a2 c2 0 h n 0 from ⟨L1.out.1.kept hk, hr2, hc2, HD.out, HS.out.1, HS.out.2, ⟨Int.le_refl _, Int.le_refl _⟩, K1.out.trans0 hk, L1.out.2.1, L1.out.2.2, fun g o hg => by
            have h1 := hf2 g o hg
            have h2 := L1.out.1.hq.lt
            refine ⟨by omega, fun h3 => ?_⟩
            have h4 := (L1.out.1.own.lt g h3).2
            omega⟩); clear hk hc2 hr2 hf2))
      have HRK := hx (lranks_any q v 0 a2 c2 h 0 w2 I2.out.ld I2.out.r5 HD.out)
      clear HM HN HA HD
      go_upto_block 0 with (go_at_call 7; refine HRK.out.mono ?_; rintro e w3 ⟨rfl, hk⟩; have I3 := hx (I2.out.kept hk); clear hk)
      clear HRK
      go_cut [7] from 55 to 138 (fun s7 wx => ∃ (a : Option Addr) (c : Nat) (told : Int) (h9 : List Ply) (i : Nat), s7 = .slice a n c ∧ i ≤ 60 ∧ Hx (TlI w wx q v a c told h9 n i))
      case first =>
        go_wp2_with fail
        go_loopw [7, 9, 10] (fun s7 s9 s10 wr => ∃ (a : Option Addr) (c : Nat) (told : Int) (h9 : List Ply) (i : Nat), s7 = .slice a n c ∧ s9 = .int .i64 told ∧ s10 = .int .i64 (i : Int) ∧ i ≤ 60 ∧ Hx (TlI w wr q v a c told h9 n i)) (fun _ _ s10 _ => 60 - (intOf s10).toNat)
        case atStart => exact ⟨a2, c2, 0, h, 0, by rw [HS.out.1], rfl, rfl, by omega, I3⟩
        case round =>
          obtain ⟨a, c, told, h9, i, rfl, rfl, rfl, hi, hI⟩ := hrel
          have HI := hI
          clear hI
          by_cases hlt : i < games.length
          · have hil : (i : Int) < (games.length : Int) := by omega
            have bl : decide ((i : Int) < (games.length : Int)) = true := decide_eq_true hil
            by_cases h6 : i < 60
            · have b6 : decide ((i : Int) < 60) = true := by simp; omega
              obtain ⟨xa, xb, xe, hx9⟩ : ∃ xa xb xe, games[i]? = some (xa, xb, xe) := ⟨games[i].1, games[i].2.1, games[i].2.2, List.getElem?_eq_getElem hlt⟩
              obtain ⟨gg, og, rfl, hgl, g0, g1, g2⟩ := (HG.out.kept HI.out.k).at_ i _ hx9
              dsimp only at g0 g1 g2
              obtain ⟨⟨pl, pc⟩, hp⟩ : ∃ p, tellP h9 xa xb xe = p := ⟨_, rfl⟩
              have hpl : pl.length = n := by
                have h := tellP_len h9 xa xb xe
                rw [hp, HI.out.ln] at h
                exact h
              have ht0 := HI.out.tl.1
              have ht1 := HI.out.tl.2
              have hn32 : n ≤ 32 := by
                have h := HI.out.gd.len
                rw [HI.out.ln] at h
                exact h
              have RT := hx (fun W (hk : Kept [] wr W) => show Calls Try.prog 8 #[.slice a n c, txt xa, txt xb, .int .i64 xe] W (fun r w' => ∃ a2 c2, r = .returned (.tuple #[.slice a2 n c2, .int .i64 pc]) ∧ Kept [] W w' ∧ R5 w' a2 pl ∧ pl.length ≤ c2 ∧ (a2 = a ∨ ∀ g o, a2 = some (⟨g, o, none⟩ : Addr) → wr.heap.size ≤ g)) from by
                have h := rtell_any a c h9 xa xb xe i W (HI.out.kept hk).r5 HI.out.hc HI.out.gd (by omega)
                rw [HI.out.ln, hp] at h
                refine h.mono ?_
                rintro r w' ⟨h1, a2, c2, h2, h3, h4, h5⟩
                exact ⟨a2, c2, by rw [h2]; dsimp only; rw [hpl], h1, h4, h3, h5.imp id (fun h6 g o hg => Nat.le_trans hk.size (h6 g o hg))⟩)
              obtain ⟨tn, htn⟩ : ∃ tn, (if pc = 0 then told + 1 else told) = tn := ⟨_, rfl⟩
              have PT := hx (fun W (hk : Kept [] wr W) => show Calls Try.prog 9 #[.pointer (some ⟨q, 0, none⟩), txt xa, txt xb, .int .i64 xe] W (fun r w' => r = .returned (.int .i64 pc) ∧ Ld w' q v tn pl ∧ Kept (q :: v.ownBlock.toList) W w') from by
                have h := ptell_any q v told xa xb xe i h9 W (HI.out.kept hk).ld HI.out.gd (by omega) ⟨ht0, by omega⟩
                rw [hp] at h
                refine h.mono ?_
                rintro r w' ⟨h1, h2, h3⟩
                rw [htn] at h2
                exact ⟨h1, h2, h3⟩)
              have QLT := hx (show wr.heap.size ∉ q :: v.ownBlock.toList from by
                intro hm
                rcases List.mem_cons.1 hm with h | h
                · have := HI.out.ld.hq.lt
                  omega
                · simp only [Option.mem_toList] at h
                  have := (HI.out.ld.own.lt _ h).2
                  omega)
              have JT := hx (fun W1 W2 a2 c2 hk1 hr hc2 ha hl hk2 => HI.out.tell (W1 := W1) (W2 := W2) (a2 := a2) (c2 := c2) xa xb xe hk1 hr hc2 ha hl hk2)
              rw [hp, htn] at JT
              have B0 := hx (Blk.new wr [txt [], txt [], .int .i64 0] 34)
              have O0 := hx (one_gm xa xb xe)
              have LP := hx (fun X W => lplayer_any X W)
              have HIL := hx (And.intro hi h6)
              have hi60 : i ≤ 59 := by omega
              clear hp hlt hx9 hi h6 HG
              have hfin : (pc = 0 ∧ told + 1 = tn) ∨ (pc ≠ 0 ∧ told = tn) := by
                by_cases h : pc = 0
                · rw [if_pos h] at htn
                  exact .inl ⟨h, htn⟩
                · rw [if_neg h] at htn
                  exact .inr ⟨h, htn⟩
              clear htn
              have htn0 : 0 ≤ tn ∧ tn ≤ 60 := by rcases hfin with h | h <;> omega
              go_upto_region 16 with (refine store_blk rfl 34 (.tmp 11) (.tmp 68) rfl wr.heap.size rfl 34 _ [txt xa, txt xb, .int .i64 xe] rfl B0.out rfl (by kernel_rfl) O0.out ?_; intro w4 hb4 hk4; have B4 := hx hb4; have K4 := hx (((Kept.refl [] wr).alloc _).trans hk4 (ds := []) (fun _ h => h) (fun x h => by simp at h; subst h; exact .inr (Nat.le_refl _))); clear hb4 hk4)
              have f0 := B4.out.cell (i := 0) rfl
              have f1 := B4.out.cell (i := 1) rfl
              have f2 := B4.out.cell (i := 2) rfl
              go_upto_region 17 with (go_at_call 8; refine (RT.out _ K4.out).mono ?_; rintro r w5 ⟨a2, c2, rfl, hk5, hr5, hc5, ha5⟩; have K5 := hx (K4.out.trans0 hk5); have B5 := hx (hk5.blk B4.out (by simp)); have R5' := hx (And.intro hr5 (And.intro hc5 ha5)); clear hk5 hr5 hc5 ha5 f0 f1 f2)
              have f0 := B5.out.cell (i := 0) rfl
              have f1 := B5.out.cell (i := 1) rfl
              have f2 := B5.out.cell (i := 2) rfl
              go_upto_region 19 with (go_at_call 9; refine (PT.out _ K5.out).mono ?_; rintro r w6 ⟨rfl, hl6, hk6⟩; have I6 := hx (JT.out _ _ _ _ K5.out R5'.out.1 R5'.out.2.1 R5'.out.2.2 hl6 hk6); have B6 := hx (hk6.blk B5.out QLT.out); clear hl6 hk6 f0 f1 f2)
              clear RT PT JT K4 B4 B5 K5 R5' B0 O0 QLT
              have f0 := B6.out.cell (i := 0) rfl
              have SAME := hx (fun W (hk : Kept [] w6 W) => I6.out.kept hk)
              cases hpa : plAt xa pl with
              | none =>
                have PP := hx (show Calls Try.prog 10 #[.pointer (some ⟨q, 0, none⟩), txt xa] w6 (fun e w' => e = .returned (.tuple #[agP pl0, .bool false]) ∧ Kept [] w6 w') from by
                  have h := pplayer_any q v tn xa pl w6 I6.out.ld (by omega)
                  rw [hpa] at h
                  exact h)
                have FR := hx (fun W (hk : Kept [] w6 W) => show Calls Try.prog 11 #[.slice a2 n c2, txt xa] W (fun e w' => e = .returned (.int .i64 (-1)) ∧ w' = W) from by
                  have h := rfind_any a2 c2 pl xa W (SAME.out _ hk).r5 (by omega)
                  rw [hpl, fi_none hpa] at h
                  exact h)

                have HPL := hx hpl
                clear hpa hpl
                have fin : ∀ (W : World), True := fun _ => trivial
                clear fin
                rcases hfin with ⟨rfl, rfl⟩ | ⟨hpc, rfl⟩
                all_goals (try have bc : decide (pc = 0) = false := decide_eq_false hpc)
                all_goals

                  go_upto_region 22 with fail
                  go_upto_region 23 with (first
                    | (go_at_call 10; refine PP.out.mono ?_; rintro r w7 ⟨rfl, hk7⟩; have K7 := hx hk7; have B7 := hx (hk7.blk B6.out (by simp)); have Z7 := hx (Blk.new w7 (enc5 pl0) 39); clear hk7 f0)
                    | (refine store_blk rfl 39 (.tmp 14) (.tmp 100) rfl w7.heap.size rfl 39 _ (enc5 pl0) rfl Z7.out rfl (by kernel_rfl) (one_enc5 _) ?_; intro w8 hb8 hk8; have B8 := hx hb8; have K78 := hx (((Kept.refl [] w7).alloc _).trans hk8 (ds := []) (fun _ h => h) (fun x h => by simp at h; subst h; exact .inr (Nat.le_refl _))); have K8 := hx (K7.out.trans0 K78.out); clear hb8 hk8))
                  have f0 := (K78.out.blk B7.out (by simp)).cell (i := 0) rfl
                  go_upto_region 24 with (go_at_call 11; refine (FR.out _ K8.out).mono ?_; rintro r w9 ⟨rfl, rfl⟩)
                  have GM := hx (fun W (hk : Kept [] w9 W) => games_any q v _ pl W (SAME.out W (K8.out.trans0 hk)).ld)
                  have HSK := hx (fun (w3 : World) (hk3 : Kept [] w9 w3) => show (fun w3 => w3.cell? ⟨w7.heap.size, 0, none⟩ = some (txt []) ∧ w3.cell? ⟨w7.heap.size, 1, none⟩ = some (.int .i64 0) ∧ w3.cell? ⟨w7.heap.size, 2, none⟩ = some (.int .i64 0) ∧ w3.cell? ⟨w7.heap.size, 3, none⟩ = some (.int .i64 0) ∧ w3.cell? ⟨w7.heap.size, 4, none⟩ = some (.int .i64 0)) w3 from (by
                    have b := hk3.blk B8.out (by simp)
                    have d0 := b.cell (i := 0) rfl
                    have d1 := b.cell (i := 1) rfl
                    have d2 := b.cell (i := 2) rfl
                    have d3 := b.cell (i := 3) rfl
                    have d4 := b.cell (i := 4) rfl
                    exact ⟨d0, d1, d2, d3, d4⟩))
                  clear f0
                  refine wp_region_held_drew (S := (fun w3 => w3.cell? ⟨w7.heap.size, 0, none⟩ = some (txt []) ∧ w3.cell? ⟨w7.heap.size, 1, none⟩ = some (.int .i64 0) ∧ w3.cell? ⟨w7.heap.size, 2, none⟩ = some (.int .i64 0) ∧ w3.cell? ⟨w7.heap.size, 3, none⟩ = some (.int .i64 0) ∧ w3.cell? ⟨w7.heap.size, 4, none⟩ = some (.int .i64 0))) (by kernel_rfl) (HSK.out _ (Kept.drew (Kept.refl [] w9))) (fun hHeld => ?_)
                  refine take_by 0 106 (v := ?_) rfl rfl (by kernel_rfl) (by kernel_rfl) (by kernel_rfl) (fun _ _ _ h => h) (Or.inl ⟨by rfl, ?_⟩) (by assumption) ?_
                  rotate_left
                  · (intro w hSw; (try dsimp only at hSw); go_simp; try with_reducible rfl)
                  try simp only [List.setIfInBounds_toArray, List.set_cons_zero, List.set_cons_succ]
                  refine take_by 1 107 (v := ?_) rfl rfl (by kernel_rfl) (by kernel_rfl) (by kernel_rfl) (fun _ _ _ h => h) (Or.inl ⟨by rfl, ?_⟩) (by assumption) ?_
                  rotate_left
                  · (intro w hSw; (try dsimp only at hSw); go_simp; try with_reducible rfl)
                  try simp only [List.setIfInBounds_toArray, List.set_cons_zero, List.set_cons_succ]
                  refine take_by 2 108 (v := ?_) rfl rfl (by kernel_rfl) (by kernel_rfl) (by kernel_rfl) (fun _ _ _ h => h) (Or.inl ⟨by rfl, ?_⟩) (by assumption) ?_
                  rotate_left
                  · (intro w hSw; (try dsimp only at hSw); go_simp; try with_reducible rfl)
                  try simp only [List.setIfInBounds_toArray, List.set_cons_zero, List.set_cons_succ]
                  refine take_by 3 109 (v := ?_) rfl rfl (by kernel_rfl) (by kernel_rfl) (by kernel_rfl) (fun _ _ _ h => h) (Or.inl ⟨by rfl, ?_⟩) (by assumption) ?_
                  rotate_left
                  · (intro w hSw; (try dsimp only at hSw); go_simp; try with_reducible rfl)
                  try simp only [List.setIfInBounds_toArray, List.set_cons_zero, List.set_cons_succ]
                  refine take_by 4 110 (v := ?_) rfl rfl (by kernel_rfl) (by kernel_rfl) (by kernel_rfl) (fun _ _ _ h => h) (Or.inl ⟨by rfl, ?_⟩) (by assumption) ?_
                  rotate_left
                  · (intro w hSw; (try dsimp only at hSw); go_simp; try with_reducible rfl)
                  try simp only [List.setIfInBounds_toArray, List.set_cons_zero, List.set_cons_succ]
                  refine take_by 5 111 (v := ?_) rfl rfl (by kernel_rfl) (by kernel_rfl) (by kernel_rfl) (fun _ _ _ h => h) (Or.inl ⟨by rfl, ?_⟩) (by assumption) ?_
                  rotate_left
                  · (intro w hSw; (try dsimp only at hSw); go_simp; try with_reducible rfl)
                  try simp only [List.setIfInBounds_toArray, List.set_cons_zero, List.set_cons_succ]
                  refine take_by 6 112 (v := ?_) rfl rfl (by kernel_rfl) (by kernel_rfl) (by kernel_rfl) (fun _ _ _ h => h) (Or.inl ⟨by rfl, ?_⟩) (by assumption) ?_
                  rotate_left
                  · (intro w hSw; (try dsimp only at hSw); go_simp; try with_reducible rfl)
                  try simp only [List.setIfInBounds_toArray, List.set_cons_zero, List.set_cons_succ]
                  refine take_by 7 113 (v := ?_) rfl rfl (by kernel_rfl) (by kernel_rfl) (by kernel_rfl) (fun _ _ _ h => h) (Or.inl ⟨by rfl, ?_⟩) (by assumption) ?_
                  rotate_left
                  · (intro w hSw; (try dsimp only at hSw); go_simp; try with_reducible rfl)
                  try simp only [List.setIfInBounds_toArray, List.set_cons_zero, List.set_cons_succ]
                  refine take_by 8 114 (v := undef) rfl rfl (by kernel_rfl) (by kernel_rfl) (by kernel_rfl) (fun _ _ _ h => h) (Or.inr ⟨by rfl, rfl⟩) (by assumption) ?_
                  try simp only [List.setIfInBounds_toArray, List.set_cons_zero, List.set_cons_succ]
                  refine take_by 9 115 (v := undef) rfl rfl (by kernel_rfl) (by kernel_rfl) (by kernel_rfl) (fun _ _ _ h => h) (Or.inr ⟨by rfl, rfl⟩) (by assumption) ?_
                  try simp only [List.setIfInBounds_toArray, List.set_cons_zero, List.set_cons_succ]
                  refine take_by 10 116 (v := undef) rfl rfl (by kernel_rfl) (by kernel_rfl) (by kernel_rfl) (fun _ _ _ h => h) (Or.inr ⟨by rfl, rfl⟩) (by assumption) ?_
                  try simp only [List.setIfInBounds_toArray, List.set_cons_zero, List.set_cons_succ]
                  refine take_by 11 117 (v := undef) rfl rfl (by kernel_rfl) (by kernel_rfl) (by kernel_rfl) (fun _ _ _ h => h) (Or.inr ⟨by rfl, rfl⟩) (by assumption) ?_
                  try simp only [List.setIfInBounds_toArray, List.set_cons_zero, List.set_cons_succ]
                  refine take_by 12 118 (v := undef) rfl rfl (by kernel_rfl) (by kernel_rfl) (by kernel_rfl) (fun _ _ _ h => h) (Or.inr ⟨by rfl, rfl⟩) (by assumption) ?_
                  try simp only [List.setIfInBounds_toArray, List.set_cons_zero, List.set_cons_succ]
                  refine take_by 13 119 (v := undef) rfl rfl (by kernel_rfl) (by kernel_rfl) (by kernel_rfl) (fun _ _ _ h => h) (Or.inr ⟨by rfl, rfl⟩) (by assumption) ?_
                  try simp only [List.setIfInBounds_toArray, List.set_cons_zero, List.set_cons_succ]
                  refine take_by 14 120 (v := undef) rfl rfl (by kernel_rfl) (by kernel_rfl) (by kernel_rfl) (fun _ _ _ h => h) (Or.inr ⟨by rfl, rfl⟩) (by assumption) ?_
                  try simp only [List.setIfInBounds_toArray, List.set_cons_zero, List.set_cons_succ]
                  refine take_by 15 121 (v := ?_) rfl rfl (by kernel_rfl) (by kernel_rfl) (by kernel_rfl) (fun _ _ _ h => h) (Or.inl ⟨by rfl, ?_⟩) (by assumption) ?_
                  rotate_left
                  · (intro w hSw; (try dsimp only at hSw); go_simp; try with_reducible rfl)
                  try simp only [List.setIfInBounds_toArray, List.set_cons_zero, List.set_cons_succ]
                  refine take_by 16 122 (v := ?_) rfl rfl (by kernel_rfl) (by kernel_rfl) (by kernel_rfl) (fun _ _ _ h => h) (Or.inl ⟨by rfl, ?_⟩) (by assumption) ?_
                  rotate_left
                  · (intro w hSw; (try dsimp only at hSw); go_simp; try with_reducible rfl)
                  try simp only [List.setIfInBounds_toArray, List.set_cons_zero, List.set_cons_succ]
                  refine take_by 17 123 (v := ?_) rfl rfl (by kernel_rfl) (by kernel_rfl) (by kernel_rfl) (fun _ _ _ h => h) (Or.inl ⟨by rfl, ?_⟩) (by assumption) ?_
                  rotate_left
                  · (intro w hSw; (try dsimp only at hSw); go_simp; try with_reducible rfl)
                  try simp only [List.setIfInBounds_toArray, List.set_cons_zero, List.set_cons_succ]
                  refine take_by 18 124 (v := ?_) rfl rfl (by kernel_rfl) (by kernel_rfl) (by kernel_rfl) (fun _ _ _ h => h) (Or.inl ⟨by rfl, ?_⟩) (by assumption) ?_
                  rotate_left
                  · (intro w hSw; (try dsimp only at hSw); go_simp; try with_reducible rfl)
                  try simp only [List.setIfInBounds_toArray, List.set_cons_zero, List.set_cons_succ]
                  refine take_by 19 125 (v := ?_) rfl rfl (by kernel_rfl) (by kernel_rfl) (by kernel_rfl) (fun _ _ _ h => h) (Or.inl ⟨by rfl, ?_⟩) (by assumption) ?_
                  rotate_left
                  · (intro w hSw; (try dsimp only at hSw); go_simp; try with_reducible rfl)
                  try simp only [List.setIfInBounds_toArray, List.set_cons_zero, List.set_cons_succ]
                  refine take_by 20 126 (v := ?_) rfl rfl (by kernel_rfl) (by kernel_rfl) (by kernel_rfl) (fun _ _ _ h => h) (Or.inl ⟨by rfl, ?_⟩) (by assumption) ?_
                  rotate_left
                  · (intro w hSw; (try dsimp only at hSw); go_simp; try with_reducible rfl)
                  try simp only [List.setIfInBounds_toArray, List.set_cons_zero, List.set_cons_succ]
                  refine take_by 21 127 (v := ?_) rfl rfl (by kernel_rfl) (by kernel_rfl) (by kernel_rfl) (fun _ _ _ h => h) (Or.inl ⟨by rfl, ?_⟩) (by assumption) ?_
                  rotate_left
                  · (intro w hSw; (try dsimp only at hSw); go_simp; try with_reducible rfl)
                  try simp only [List.setIfInBounds_toArray, List.set_cons_zero, List.set_cons_succ]
                  refine take_by 22 128 (v := ?_) rfl rfl (by kernel_rfl) (by kernel_rfl) (by kernel_rfl) (fun _ _ _ h => h) (Or.inl ⟨by rfl, ?_⟩) (by assumption) ?_
                  rotate_left
                  · (intro w hSw; (try dsimp only at hSw); go_simp; try with_reducible rfl)
                  try simp only [List.setIfInBounds_toArray, List.set_cons_zero, List.set_cons_succ]
                  refine take_by 23 129 (v := ?_) rfl rfl (by kernel_rfl) (by kernel_rfl) (by kernel_rfl) (fun _ _ _ h => h) (Or.inl ⟨by rfl, ?_⟩) (by assumption) ?_
                  rotate_left
                  · (intro w hSw; (try dsimp only at hSw); go_simp; try with_reducible rfl)
                  try simp only [List.setIfInBounds_toArray, List.set_cons_zero, List.set_cons_succ]
                  refine take_by 24 130 (v := ?_) rfl rfl (by kernel_rfl) (by kernel_rfl) (by kernel_rfl) (fun _ _ _ h => h) (Or.inl ⟨by rfl, ?_⟩) (by assumption) ?_
                  rotate_left
                  · (intro w hSw; (try dsimp only at hSw); go_simp; try with_reducible rfl)
                  try simp only [List.setIfInBounds_toArray, List.set_cons_zero, List.set_cons_succ]
                  refine take_by 25 131 (v := ?_) rfl rfl (by kernel_rfl) (by kernel_rfl) (by kernel_rfl) (fun _ _ _ h => h) (Or.inl ⟨by rfl, ?_⟩) (by assumption) ?_
                  rotate_left
                  · (intro w hSw; (try dsimp only at hSw); go_simp; try with_reducible rfl)
                  try simp only [List.setIfInBounds_toArray, List.set_cons_zero, List.set_cons_succ]
                  refine take_by 26 132 (v := ?_) rfl rfl (by kernel_rfl) (by kernel_rfl) (by kernel_rfl) (fun _ _ _ h => h) (Or.inl ⟨by rfl, ?_⟩) (by assumption) ?_
                  rotate_left
                  · (intro w hSw; (try dsimp only at hSw); go_simp; try with_reducible rfl)
                  try simp only [List.setIfInBounds_toArray, List.set_cons_zero, List.set_cons_succ]
                  refine take_by 27 133 (v := ?_) rfl rfl (by kernel_rfl) (by kernel_rfl) (by kernel_rfl) (fun _ _ _ h => h) (Or.inl ⟨by rfl, ?_⟩) (by assumption) ?_
                  rotate_left
                  · (intro w hSw; (try dsimp only at hSw); go_simp; try with_reducible rfl)
                  try simp only [List.setIfInBounds_toArray, List.set_cons_zero, List.set_cons_succ]
                  refine take_by 29 135 (v := ?_) rfl rfl (by kernel_rfl) (by kernel_rfl) (by kernel_rfl) (fun _ _ _ h => h) (Or.inl ⟨by rfl, ?_⟩) (by assumption) ?_
                  rotate_left
                  · (intro w hSw; (try dsimp only at hSw); go_simp; try with_reducible rfl)
                  try simp only [List.setIfInBounds_toArray, List.set_cons_zero, List.set_cons_succ]
                  refine wpAnyH_ready (rs := [28]) (by kernel_rfl) (by simp) ?_
                  refine AllReadyH.cons rfl (fun K hK => ?_) AllReadyH.nil
                  go_simp
                  (go_at_call 13; refine (GM.out _ (Kept.drew (Kept.refl [] w9))).mono ?_; rintro r w11 ⟨rfl, rfl⟩)
                  refine hK.out _ _ (HSK.out _ (Kept.drew (Kept.refl [] w9))) (fun hHeld => ?_)
                  clear hK K
                  try simp only [Act.put, List.setIfInBounds_toArray, List.set_cons_zero, List.set_cons_succ]
                  refine take_by 30 136 (v := ?_) rfl rfl (by kernel_rfl) (by kernel_rfl) (by kernel_rfl) (fun _ _ _ h => h) (Or.inl ⟨by rfl, ?_⟩) (by assumption) ?_
                  rotate_left
                  · (intro w hSw; (try dsimp only at hSw); go_simp; try with_reducible rfl)
                  try simp only [List.setIfInBounds_toArray, List.set_cons_zero, List.set_cons_succ]
                  refine take_by 31 137 (v := ?_) rfl rfl (by kernel_rfl) (by kernel_rfl) (by kernel_rfl) (fun _ _ _ h => h) (Or.inl ⟨by rfl, ?_⟩) (by assumption) ?_
                  rotate_left
                  · (intro w hSw; (try dsimp only at hSw); go_simp; try with_reducible rfl)
                  try simp only [List.setIfInBounds_toArray, List.set_cons_zero, List.set_cons_succ]
                  refine wpAnyH_done (by kernel_rfl) ?_ _
                  go_wp2_with fail
                  go_roundw
                  case rel => exact ⟨_, c2, _, pl, i + 1, rfl, rfl, by push_cast; rfl, by have := HIL.out.2; omega, hx (SAME.out _ (K8.out.trans0 (Kept.drew (Kept.refl [] w9))))⟩
                  case measure =>
                    simp only [intOf]
                    have := HIL.out.2
                    omega
              | some k =>
                obtain ⟨hk1, hk2⟩ := plAt_some hpa
                have hk32 : k < 32 := by omega
                obtain ⟨X, hX⟩ : ∃ X, pl.getD k pl0 = X := ⟨_, rfl⟩
                have HKX := hx (And.intro hk1 hX)
                have hkn : (k : Int) < (n : Int) := by omega
                have PP := hx (show Calls Try.prog 10 #[.pointer (some ⟨q, 0, none⟩), txt xa] w6 (fun e w' => e = .returned (.tuple #[agP X, .bool true]) ∧ Kept [] w6 w') from by
                  have h := pplayer_any q v tn xa pl w6 I6.out.ld (by omega)
                  rw [hpa] at h
                  dsimp only at h
                  rw [hX] at h
                  exact h)
                have FR := hx (fun W (hk : Kept [] w6 W) => show Calls Try.prog 11 #[.slice a2 n c2, txt xa] W (fun e w' => e = .returned (.int .i64 (k : Int)) ∧ w' = W) from by
                  have h := rfind_any a2 c2 pl xa W (SAME.out _ hk).r5 (by omega)
                  rw [hpl, fi_some hpa] at h
                  exact h)
                clear hk1 hk2 hX

                have HPL := hx hpl
                clear hpa hpl
                have fin : ∀ (W : World), True := fun _ => trivial
                clear fin
                rcases hfin with ⟨rfl, rfl⟩ | ⟨hpc, rfl⟩
                all_goals (try have bc : decide (pc = 0) = false := decide_eq_false hpc)
                all_goals

                  go_upto_region 22 with fail
                  go_upto_region 23 with (first
                    | (go_at_call 10; refine PP.out.mono ?_; rintro r w7 ⟨rfl, hk7⟩; have K7 := hx hk7; have B7 := hx (hk7.blk B6.out (by simp)); have Z7 := hx (Blk.new w7 (enc5 pl0) 39); clear hk7 f0)
                    | (refine store_blk rfl 39 (.tmp 14) (.tmp 100) rfl w7.heap.size rfl 39 _ (enc5 X) rfl Z7.out rfl (by kernel_rfl) (one_enc5 _) ?_; intro w8 hb8 hk8; have B8 := hx hb8; have K78 := hx (((Kept.refl [] w7).alloc _).trans hk8 (ds := []) (fun _ h => h) (fun x h => by simp at h; subst h; exact .inr (Nat.le_refl _))); have K8 := hx (K7.out.trans0 K78.out); clear hb8 hk8))
                  have f0 := (K78.out.blk B7.out (by simp)).cell (i := 0) rfl
                  go_upto_region 24 with (go_at_call 11; refine (FR.out _ K8.out).mono ?_; rintro r w9 ⟨rfl, rfl⟩)
                  have kn : ¬ (k : Int) < 0 := by omega
                  have kd : decide ((k : Int) < 0) = false := decide_eq_false kn
                  have kp : (0 : Int) ≤ (k : Int) := by omega
                  have kq : decide ((0 : Int) ≤ (k : Int)) = true := decide_eq_true kp
                  obtain ⟨g2, o2, rfl⟩ := I6.out.r5.addr (by have := HPL.out; omega)

                  have GM := hx (fun W (hk : Kept [] w9 W) => games_any q v _ pl W (SAME.out W (K8.out.trans0 hk)).ld)
                  have HSK := hx (fun (w3 : World) (hk3 : Kept [] w9 w3) => show (fun w3 => w3.cell? ⟨w7.heap.size, 0, none⟩ = some (txt X.nm) ∧ w3.cell? ⟨w7.heap.size, 1, none⟩ = some (.int .i64 X.ma) ∧ w3.cell? ⟨w7.heap.size, 2, none⟩ = some (.int .i64 X.wo) ∧ w3.cell? ⟨w7.heap.size, 3, none⟩ = some (.int .i64 X.dr) ∧ w3.cell? ⟨w7.heap.size, 4, none⟩ = some (.int .i64 X.lo) ∧ w3.cell? ⟨g2, o2 + k * 5, none⟩ = some (txt X.nm) ∧ w3.cell? ⟨g2, o2 + k * 5 + 1, none⟩ = some (.int .i64 X.ma) ∧ w3.cell? ⟨g2, o2 + k * 5 + 2, none⟩ = some (.int .i64 X.wo) ∧ w3.cell? ⟨g2, o2 + k * 5 + 3, none⟩ = some (.int .i64 X.dr) ∧ w3.cell? ⟨g2, o2 + k * 5 + 4, none⟩ = some (.int .i64 X.lo)) w3 from (by
                    have b := hk3.blk B8.out (by simp)
                    have d0 := b.cell (i := 0) rfl
                    have d1 := b.cell (i := 1) rfl
                    have d2 := b.cell (i := 2) rfl
                    have d3 := b.cell (i := 3) rfl
                    have d4 := b.cell (i := 4) rfl
                    obtain ⟨e0, e1, e2, e3, e4⟩ := (SAME.out w3 (K8.out.trans0 hk3)).r5.cells HKX.out.1
                    rw [HKX.out.2] at e0 e1 e2 e3 e4
                    exact ⟨d0, d1, d2, d3, d4, e0, e1, e2, e3, e4⟩))
                  clear f0
                  refine wp_region_held_drew (S := (fun w3 => w3.cell? ⟨w7.heap.size, 0, none⟩ = some (txt X.nm) ∧ w3.cell? ⟨w7.heap.size, 1, none⟩ = some (.int .i64 X.ma) ∧ w3.cell? ⟨w7.heap.size, 2, none⟩ = some (.int .i64 X.wo) ∧ w3.cell? ⟨w7.heap.size, 3, none⟩ = some (.int .i64 X.dr) ∧ w3.cell? ⟨w7.heap.size, 4, none⟩ = some (.int .i64 X.lo) ∧ w3.cell? ⟨g2, o2 + k * 5, none⟩ = some (txt X.nm) ∧ w3.cell? ⟨g2, o2 + k * 5 + 1, none⟩ = some (.int .i64 X.ma) ∧ w3.cell? ⟨g2, o2 + k * 5 + 2, none⟩ = some (.int .i64 X.wo) ∧ w3.cell? ⟨g2, o2 + k * 5 + 3, none⟩ = some (.int .i64 X.dr) ∧ w3.cell? ⟨g2, o2 + k * 5 + 4, none⟩ = some (.int .i64 X.lo))) (by kernel_rfl) (HSK.out _ (Kept.drew (Kept.refl [] w9))) (fun hHeld => ?_)
                  refine take_by 0 106 (v := ?_) rfl rfl (by kernel_rfl) (by kernel_rfl) (by kernel_rfl) (fun _ _ _ h => h) (Or.inl ⟨by rfl, ?_⟩) (by assumption) ?_
                  rotate_left
                  · (intro w hSw; (try dsimp only at hSw); go_simp; try with_reducible rfl)
                  try simp only [List.setIfInBounds_toArray, List.set_cons_zero, List.set_cons_succ]
                  refine take_by 1 107 (v := ?_) rfl rfl (by kernel_rfl) (by kernel_rfl) (by kernel_rfl) (fun _ _ _ h => h) (Or.inl ⟨by rfl, ?_⟩) (by assumption) ?_
                  rotate_left
                  · (intro w hSw; (try dsimp only at hSw); go_simp; try with_reducible rfl)
                  try simp only [List.setIfInBounds_toArray, List.set_cons_zero, List.set_cons_succ]
                  refine take_by 2 108 (v := ?_) rfl rfl (by kernel_rfl) (by kernel_rfl) (by kernel_rfl) (fun _ _ _ h => h) (Or.inl ⟨by rfl, ?_⟩) (by assumption) ?_
                  rotate_left
                  · (intro w hSw; (try dsimp only at hSw); go_simp; try with_reducible rfl)
                  try simp only [List.setIfInBounds_toArray, List.set_cons_zero, List.set_cons_succ]
                  refine take_by 3 109 (v := ?_) rfl rfl (by kernel_rfl) (by kernel_rfl) (by kernel_rfl) (fun _ _ _ h => h) (Or.inl ⟨by rfl, ?_⟩) (by assumption) ?_
                  rotate_left
                  · (intro w hSw; (try dsimp only at hSw); go_simp; try with_reducible rfl)
                  try simp only [List.setIfInBounds_toArray, List.set_cons_zero, List.set_cons_succ]
                  refine take_by 4 110 (v := ?_) rfl rfl (by kernel_rfl) (by kernel_rfl) (by kernel_rfl) (fun _ _ _ h => h) (Or.inl ⟨by rfl, ?_⟩) (by assumption) ?_
                  rotate_left
                  · (intro w hSw; (try dsimp only at hSw); go_simp; try with_reducible rfl)
                  try simp only [List.setIfInBounds_toArray, List.set_cons_zero, List.set_cons_succ]
                  refine take_by 5 111 (v := ?_) rfl rfl (by kernel_rfl) (by kernel_rfl) (by kernel_rfl) (fun _ _ _ h => h) (Or.inl ⟨by rfl, ?_⟩) (by assumption) ?_
                  rotate_left
                  · (intro w hSw; (try dsimp only at hSw); go_simp; try with_reducible rfl)
                  try simp only [List.setIfInBounds_toArray, List.set_cons_zero, List.set_cons_succ]
                  refine take_by 6 112 (v := ?_) rfl rfl (by kernel_rfl) (by kernel_rfl) (by kernel_rfl) (fun _ _ _ h => h) (Or.inl ⟨by rfl, ?_⟩) (by assumption) ?_
                  rotate_left
                  · (intro w hSw; (try dsimp only at hSw); go_simp; try with_reducible rfl)
                  try simp only [List.setIfInBounds_toArray, List.set_cons_zero, List.set_cons_succ]
                  refine take_by 7 113 (v := ?_) rfl rfl (by kernel_rfl) (by kernel_rfl) (by kernel_rfl) (fun _ _ _ h => h) (Or.inl ⟨by rfl, ?_⟩) (by assumption) ?_
                  rotate_left
                  · (intro w hSw; (try dsimp only at hSw); go_simp; try with_reducible rfl)
                  try simp only [List.setIfInBounds_toArray, List.set_cons_zero, List.set_cons_succ]
                  refine take_by 8 114 (v := ?_) rfl rfl (by kernel_rfl) (by kernel_rfl) (by kernel_rfl) (fun _ _ _ h => h) (Or.inl ⟨by rfl, ?_⟩) (by assumption) ?_
                  rotate_left
                  · (intro w hSw; (try dsimp only at hSw); go_simp; try with_reducible rfl)
                  try simp only [List.setIfInBounds_toArray, List.set_cons_zero, List.set_cons_succ]
                  refine take_by 9 115 (v := ?_) rfl rfl (by kernel_rfl) (by kernel_rfl) (by kernel_rfl) (fun _ _ _ h => h) (Or.inl ⟨by rfl, ?_⟩) (by assumption) ?_
                  rotate_left
                  · (intro w hSw; (try dsimp only at hSw); go_simp; try with_reducible rfl)
                  try simp only [List.setIfInBounds_toArray, List.set_cons_zero, List.set_cons_succ]
                  refine take_by 10 116 (v := ?_) rfl rfl (by kernel_rfl) (by kernel_rfl) (by kernel_rfl) (fun _ _ _ h => h) (Or.inl ⟨by rfl, ?_⟩) (by assumption) ?_
                  rotate_left
                  · (intro w hSw; (try dsimp only at hSw); go_simp; try with_reducible rfl)
                  try simp only [List.setIfInBounds_toArray, List.set_cons_zero, List.set_cons_succ]
                  refine take_by 11 117 (v := ?_) rfl rfl (by kernel_rfl) (by kernel_rfl) (by kernel_rfl) (fun _ _ _ h => h) (Or.inl ⟨by rfl, ?_⟩) (by assumption) ?_
                  rotate_left
                  · (intro w hSw; (try dsimp only at hSw); go_simp; try with_reducible rfl)
                  try simp only [List.setIfInBounds_toArray, List.set_cons_zero, List.set_cons_succ]
                  refine take_by 12 118 (v := ?_) rfl rfl (by kernel_rfl) (by kernel_rfl) (by kernel_rfl) (fun _ _ _ h => h) (Or.inl ⟨by rfl, ?_⟩) (by assumption) ?_
                  rotate_left
                  · (intro w hSw; (try dsimp only at hSw); go_simp; try with_reducible rfl)
                  try simp only [List.setIfInBounds_toArray, List.set_cons_zero, List.set_cons_succ]
                  refine wpAnyH_ready (rs := [13]) (by kernel_rfl) (by simp) ?_
                  refine AllReadyH.cons rfl (fun K hK => ?_) AllReadyH.nil
                  go_simp
                  (go_at_call 12; refine (LP.out _ _).mono ?_; rintro r w10 ⟨rfl, hk10⟩; have K10 := hx (show Kept [] w9 w10 from (Kept.drew (Kept.refl [] w9)).trans0 hk10); have HS10 := HSK.out _ K10.out; clear hk10)
                  refine hK.out _ _ (HS10) (fun hHeld => ?_)
                  clear hK K
                  try simp only [Act.put, List.setIfInBounds_toArray, List.set_cons_zero, List.set_cons_succ]
                  refine take_by 14 120 (v := ?_) rfl rfl (by kernel_rfl) (by kernel_rfl) (by kernel_rfl) (fun _ _ _ h => h) (Or.inl ⟨by rfl, ?_⟩) (by assumption) ?_
                  rotate_left
                  · (intro w hSw; (try dsimp only at hSw); go_simp; try with_reducible rfl)
                  try simp only [List.setIfInBounds_toArray, List.set_cons_zero, List.set_cons_succ]
                  refine take_by 15 121 (v := ?_) rfl rfl (by kernel_rfl) (by kernel_rfl) (by kernel_rfl) (fun _ _ _ h => h) (Or.inl ⟨by rfl, ?_⟩) (by assumption) ?_
                  rotate_left
                  · (intro w hSw; (try dsimp only at hSw); go_simp; try with_reducible rfl)
                  try simp only [List.setIfInBounds_toArray, List.set_cons_zero, List.set_cons_succ]
                  refine take_by 16 122 (v := ?_) rfl rfl (by kernel_rfl) (by kernel_rfl) (by kernel_rfl) (fun _ _ _ h => h) (Or.inl ⟨by rfl, ?_⟩) (by assumption) ?_
                  rotate_left
                  · (intro w hSw; (try dsimp only at hSw); go_simp; try with_reducible rfl)
                  try simp only [List.setIfInBounds_toArray, List.set_cons_zero, List.set_cons_succ]
                  refine take_by 17 123 (v := ?_) rfl rfl (by kernel_rfl) (by kernel_rfl) (by kernel_rfl) (fun _ _ _ h => h) (Or.inl ⟨by rfl, ?_⟩) (by assumption) ?_
                  rotate_left
                  · (intro w hSw; (try dsimp only at hSw); go_simp; try with_reducible rfl)
                  try simp only [List.setIfInBounds_toArray, List.set_cons_zero, List.set_cons_succ]
                  refine take_by 18 124 (v := ?_) rfl rfl (by kernel_rfl) (by kernel_rfl) (by kernel_rfl) (fun _ _ _ h => h) (Or.inl ⟨by rfl, ?_⟩) (by assumption) ?_
                  rotate_left
                  · (intro w hSw; (try dsimp only at hSw); go_simp; try with_reducible rfl)
                  try simp only [List.setIfInBounds_toArray, List.set_cons_zero, List.set_cons_succ]
                  refine take_by 19 125 (v := ?_) rfl rfl (by kernel_rfl) (by kernel_rfl) (by kernel_rfl) (fun _ _ _ h => h) (Or.inl ⟨by rfl, ?_⟩) (by assumption) ?_
                  rotate_left
                  · (intro w hSw; (try dsimp only at hSw); go_simp; try with_reducible rfl)
                  try simp only [List.setIfInBounds_toArray, List.set_cons_zero, List.set_cons_succ]
                  refine take_by 20 126 (v := ?_) rfl rfl (by kernel_rfl) (by kernel_rfl) (by kernel_rfl) (fun _ _ _ h => h) (Or.inl ⟨by rfl, ?_⟩) (by assumption) ?_
                  rotate_left
                  · (intro w hSw; (try dsimp only at hSw); go_simp; try with_reducible rfl)
                  try simp only [List.setIfInBounds_toArray, List.set_cons_zero, List.set_cons_succ]
                  refine take_by 21 127 (v := undef) rfl rfl (by kernel_rfl) (by kernel_rfl) (by kernel_rfl) (fun _ _ _ h => h) (Or.inr ⟨by rfl, rfl⟩) (by assumption) ?_
                  try simp only [List.setIfInBounds_toArray, List.set_cons_zero, List.set_cons_succ]
                  refine take_by 22 128 (v := undef) rfl rfl (by kernel_rfl) (by kernel_rfl) (by kernel_rfl) (fun _ _ _ h => h) (Or.inr ⟨by rfl, rfl⟩) (by assumption) ?_
                  try simp only [List.setIfInBounds_toArray, List.set_cons_zero, List.set_cons_succ]
                  refine take_by 23 129 (v := undef) rfl rfl (by kernel_rfl) (by kernel_rfl) (by kernel_rfl) (fun _ _ _ h => h) (Or.inr ⟨by rfl, rfl⟩) (by assumption) ?_
                  try simp only [List.setIfInBounds_toArray, List.set_cons_zero, List.set_cons_succ]
                  refine take_by 24 130 (v := ?_) rfl rfl (by kernel_rfl) (by kernel_rfl) (by kernel_rfl) (fun _ _ _ h => h) (Or.inl ⟨by rfl, ?_⟩) (by assumption) ?_
                  rotate_left
                  · (intro w hSw; (try dsimp only at hSw); go_simp; try with_reducible rfl)
                  try simp only [List.setIfInBounds_toArray, List.set_cons_zero, List.set_cons_succ]
                  refine take_by 25 131 (v := ?_) rfl rfl (by kernel_rfl) (by kernel_rfl) (by kernel_rfl) (fun _ _ _ h => h) (Or.inl ⟨by rfl, ?_⟩) (by assumption) ?_
                  rotate_left
                  · (intro w hSw; (try dsimp only at hSw); go_simp; try with_reducible rfl)
                  try simp only [List.setIfInBounds_toArray, List.set_cons_zero, List.set_cons_succ]
                  refine take_by 26 132 (v := ?_) rfl rfl (by kernel_rfl) (by kernel_rfl) (by kernel_rfl) (fun _ _ _ h => h) (Or.inl ⟨by rfl, ?_⟩) (by assumption) ?_
                  rotate_left
                  · (intro w hSw; (try dsimp only at hSw); go_simp; try with_reducible rfl)
                  try simp only [List.setIfInBounds_toArray, List.set_cons_zero, List.set_cons_succ]
                  refine take_by 27 133 (v := ?_) rfl rfl (by kernel_rfl) (by kernel_rfl) (by kernel_rfl) (fun _ _ _ h => h) (Or.inl ⟨by rfl, ?_⟩) (by assumption) ?_
                  rotate_left
                  · (intro w hSw; (try dsimp only at hSw); go_simp; try with_reducible rfl)
                  try simp only [List.setIfInBounds_toArray, List.set_cons_zero, List.set_cons_succ]
                  refine take_by 29 135 (v := ?_) rfl rfl (by kernel_rfl) (by kernel_rfl) (by kernel_rfl) (fun _ _ _ h => h) (Or.inl ⟨by rfl, ?_⟩) (by assumption) ?_
                  rotate_left
                  · (intro w hSw; (try dsimp only at hSw); go_simp; try with_reducible rfl)
                  try simp only [List.setIfInBounds_toArray, List.set_cons_zero, List.set_cons_succ]
                  refine wpAnyH_ready (rs := [28]) (by kernel_rfl) (by simp) ?_
                  refine AllReadyH.cons rfl (fun K hK => ?_) AllReadyH.nil
                  go_simp
                  (go_at_call 13; refine (GM.out _ K10.out).mono ?_; rintro r w11 ⟨rfl, rfl⟩)
                  refine hK.out _ _ (HSK.out _ K10.out) (fun hHeld => ?_)
                  clear hK K
                  try simp only [Act.put, List.setIfInBounds_toArray, List.set_cons_zero, List.set_cons_succ]
                  refine take_by 30 136 (v := ?_) rfl rfl (by kernel_rfl) (by kernel_rfl) (by kernel_rfl) (fun _ _ _ h => h) (Or.inl ⟨by rfl, ?_⟩) (by assumption) ?_
                  rotate_left
                  · (intro w hSw; (try dsimp only at hSw); go_simp; try with_reducible rfl)
                  try simp only [List.setIfInBounds_toArray, List.set_cons_zero, List.set_cons_succ]
                  refine take_by 31 137 (v := ?_) rfl rfl (by kernel_rfl) (by kernel_rfl) (by kernel_rfl) (fun _ _ _ h => h) (Or.inl ⟨by rfl, ?_⟩) (by assumption) ?_
                  rotate_left
                  · (intro w hSw; (try dsimp only at hSw); go_simp; try with_reducible rfl)
                  try simp only [List.setIfInBounds_toArray, List.set_cons_zero, List.set_cons_succ]
                  refine wpAnyH_done (by kernel_rfl) ?_ _
                  go_wp2_with fail
                  go_roundw
                  case rel => exact ⟨_, c2, _, pl, i + 1, rfl, rfl, by push_cast; rfl, by have := HIL.out.2; omega, hx (SAME.out _ (K8.out.trans0 K10.out))⟩
                  case measure =>
                    simp only [intOf]
                    have := HIL.out.2
                    omega
            · have hi6 : ¬ (i : Int) < 60 := by omega
              have b6 : decide ((i : Int) < 60) = false := decide_eq_false hi6
              clear hlt h6
              go_wp2_with fail
              go_meet
              exact ⟨a, c, told, h9, i, rfl, hi, HI⟩
          · have hil : ¬ (i : Int) < (games.length : Int) := by omega
            have bl : decide ((i : Int) < (games.length : Int)) = false := decide_eq_false hil
            clear hlt
            go_wp2_with fail
            go_meet
            exact ⟨a, c, told, h9, i, rfl, hi, HI⟩
      case rest =>
        obtain ⟨a, c, told, h9, i, rfl, hi, hI⟩ := hcut
        have hn32 : n ≤ 32 := by
          have h := hI.out.gd.len
          rw [hI.out.ln] at h
          exact h
        have HPR := hx (show Calls Try.prog 14 #[.pointer (some ⟨q, 0, none⟩)] wc (fun e w' => ∃ ar cr, e = .returned (.slice ar n cr) ∧ w'.ownsRow wc.heap.size 39 5 (.slice ar n cr) n (cel (ranksP [] h9)) ∧ Kept [] wc w') from by
          have h := pranks_any q v told h9 wc hI.out.ld hI.out.gd.nm (by rw [hI.out.ln]; omega)
          rw [hI.out.ln] at h
          refine h.mono ?_
          rintro e w' ⟨v', rfl, ho, hk⟩
          obtain ⟨ar, cr, rfl⟩ := own_slice ho
          exact ⟨ar, cr, rfl, ho, hk⟩)
        have hRL : (ranksP [] h9).length = n := by rw [ranks_len]; exact hI.out.ln
        have hRS : sumM (ranksP [] h9) = 1500 * (n : Int) := by
          rw [← hI.out.sm]
          exact sumM_perm (ranks_perm h9)
        have hRM : ∀ x ∈ ranksP [] h9, 0 ≤ x.ma ∧ x.ma ≤ 4000 := fun x hx => hI.out.gd.ma x ((ranks_perm h9).mem_iff.1 hx)
        generalize ranksP [] h9 = L at *
        have HL := hx (And.intro hRL (And.intro hRS hRM))
        clear hRL hRS hRM HG hi
        go_wp2_with (go_at_call 14; refine HPR.out.mono ?_; rintro e w5 ⟨ar, cr, rfl, ho5, hk5⟩; have OWN := hx ho5; have K5 := hx hk5; clear ho5 hk5)
        go_loopw [141, 17] (fun s141 s17 wr => ∃ j : Nat, s141 = .int .i64 (j : Int) ∧ s17 = .int .i64 (sumM (L.take j)) ∧ j ≤ n ∧ Hx (Kept [] w5 wr)) (fun s141 _ _ => n - (intOf s141).toNat)
        case atStart => exact ⟨0, rfl, rfl, Nat.zero_le _, hx (Kept.refl _ _)⟩
        case round =>
          obtain ⟨j, rfl, rfl, hj, HK⟩ := hrel
          have hsb := sumM_take HL.out.2.2 (i := j) (by have := HL.out.1; omega)
          by_cases hjn : j < n
          · have hjl : (j : Int) < (n : Int) := by omega
            have bj : decide ((j : Int) < (n : Int)) = true := decide_eq_true hjl
            have own := own_kept3 OWN.out (fun g cs _ hg => HK.out.block g (Array.getElem?_eq_some_iff.1 hg).1 (by simp))
            rcases own.2 with ⟨_, h0⟩ | ⟨gb, cap, cur, he, _⟩
            · omega
            simp only [Value.slice.injEq] at he
            obtain ⟨rfl, _, rfl⟩ := he
            obtain ⟨e0, e1, e2, e3, e4⟩ := own_five own (i := j) (by have := HL.out.1; omega)
            obtain ⟨X, hX⟩ : ∃ X, L.getD j pl0 = X := ⟨_, rfl⟩
            rw [hX] at e0 e1 e2 e3 e4
            have hs : sumM (L.take (j + 1)) = sumM (L.take j) + X.ma := by rw [← hX]; exact sumM_snoc (by have := HL.out.1; omega)
            have hm : 0 ≤ X.ma ∧ X.ma ≤ 4000 := by
              rw [← hX]
              have hjL : j < L.length := by have := HL.out.1; omega
              rw [List.getD_eq_getElem?_getD, List.getElem?_eq_getElem hjL]
              exact HL.out.2.2 _ (List.getElem_mem hjL)
            have B0 := hx (Blk.new wr (enc5 pl0) 39)
            have HS2 := hx hs
            have HJ := hx hj
            have HJN := hx hjn
            clear hX hs own hjn hj
            generalize sumM (L.take j) = S at *
            go_upto_region 30 with (refine store_blk rfl 39 (.tmp 19) (.tmp 144) rfl wr.heap.size rfl 39 _ (enc5 X) rfl B0.out rfl (by kernel_rfl) (one_enc5 _) ?_; intro w8 hb8 hk8; have B8 := hx hb8; have K8 := hx (((Kept.refl [] wr).alloc _).trans hk8 (ds := []) (fun _ h => h) (fun x h => by simp at h; subst h; exact .inr (Nat.le_refl _))); clear hb8 hk8)
            have f1 := B8.out.cell (i := 1) rfl
            go_wp2_with fail
            go_roundw
            case rel => exact ⟨j + 1, by push_cast; rfl, by rw [HS2.out], by have := HJN.out; omega, hx (HK.out.trans0 K8.out)⟩
            case measure =>
              simp only [intOf]
              have := HJN.out
              omega
          · have hjl : ¬ (j : Int) < (n : Int) := by omega
            have bj : decide ((j : Int) < (n : Int)) = false := decide_eq_false hjl
            have hS : sumM (L.take j) = 1500 * (n : Int) := by
              rw [List.take_of_length_le (by have := HL.out.1; omega)]
              exact HL.out.2.1
            have IR := hx (hI.out.kept (K5.out.trans0 HK.out))
            have LR := hx (show Calls Try.prog 7 #[.pointer (some ⟨q, 0, none⟩), .slice a n c] wr (fun e w' => e = .returned (.bool true) ∧ Kept [] wr w') from by
              have h := lranks_any q v told a c h9 i wr IR.out.ld IR.out.r5 IR.out.gd
              rw [hI.out.ln] at h
              exact h)
            have hw : IntKind.i64.wrap (1500 * (n : Int)) = 1500 * (n : Int) := by rw [IntKind.wrap_i64]; omega
            rw [hS]
            clear hS hsb hjn hj
            go_wp2_with (go_at_call 7; refine LR.out.mono ?_; rintro e w9 ⟨rfl, hk9⟩; have K9 := hx (IR.out.k.trans0 hk9); clear hk9)
            go_ret
            exact ⟨rfl, K9.out⟩
end Go.Proofs.Ytimplkdmhndalaa
