/- path.Order over ways that lie in one block. Printed by k/gen_mpor.py. A slice of bytes, as a list. append, make and copy on slices of bytes: the kit's laws in the words of Row. Datagrams: may one be? -/
import Derived.Test.YtgdofgckjkmhjaaGreatPk04
import Derived.Deep.AppendLies
import Derived.Laws.OwnMore
import Derived.Deep.RegionLaw
import Derived.BigQuiet
import Derived.OwnWalk
import Derived.Test.YtgdofgckjkmhjaaGreatPk01
import Derived.Laws.MakeOwn
import Derived.Laws.CopyOwn
import Derived.Test.YtgdofgckjkmhjaaGreatProg
import Derived.Deep.RegionLawGrows
import Derived.Laws.AppendOwnNone
import Derived.KernelRfl
import Derived.Handy
import Derived.LoopTactic
import Derived.Outline
import Derived.Deep.RegionHeld3
import Derived.Deep.DeepCutAuto
import Derived.Lib.Hide
import Derived.StillTailTactics
import Derived.BigGuardPart
set_option linter.unusedSimpArgs false
set_option linter.unusedVariables false
namespace Go.Proofs.YtgdofgckjkmhjaaGreat
open Go Go.RowKit
attribute [local go_sem ↓] exec_m5 exec_m6 exec_r5 exec_r69 exec_r78
attribute [local go_sem] goodMid_at midAt_at
set_option maxRecDepth 100000 in
set_option maxHeartbeats 3200000 in
theorem aheadO_any (b o1 o2 : Nat) (xs : List Value) (T : TypeId) (p q : Pa) (w : World) (k : Int) (hp : StOk p.s k) (hq : StOk q.s k) (hb : Blk w b xs T) (hp1 : Part xs o1 (pac p)) (hp2 : Part xs o2 (pac q)) :
    Calls Tryz.prog 90 #[.pointer (some ⟨b, o1, none⟩), .pointer (some ⟨b, o2, none⟩)] w fun e w' => e = .returned (.bool (decide (keyI p < keyI q))) ∧ Kept [] w w' := by
  have HS := hx (state_any b o1 xs _ p w hb hp1)
  have HT := hx (state_any b o2 xs _ q w hb hp2)
  have HB := hx hb
  have HP1 := hx hp1
  have HP2 := hx hp2
  have HP := hx hp
  have HQ := hx hq
  by_cases h : stateI p.quiet = stateI q.quiet
  · have z := hx (key_eq p q h)
    rw [h] at HS
    generalize stateI q.quiet = y at *
    clear hb hp1 hp2 hp hq h
    go_enter Tryz.func90, Tryz.ntmps90
    go_wp2_with fail
    refine HS.out.mono ?_
    rintro e w1 ⟨rfl, rfl⟩
    go_wp2_with fail
    refine HT.out.mono ?_
    rintro e w1 ⟨rfl, rfl⟩
    go_upto_region 3 with fail
    clear HS HT
    have HG := hx (fun (w3 w4 : World) (h : ((midOf w3 b o1 5 = (stc p.s).toArray ∧ hasMid w3 b o1 5 = true) ∧ (midOf w3 b o2 5 = (stc q.s).toArray ∧ hasMid w3 b o2 5 = true)) ∧ (Hx (Blk w3 b xs T) ∧ Hx (Kept [] w w3))) (hk : Kept [] w3 w4) =>
      And.intro (And.intro (midS_of (hk.blk h.2.1.out (by simp)) (pac_s HP1.out)) (midS_of (hk.blk h.2.1.out (by simp)) (pac_s HP2.out))) (And.intro (hx (hk.blk h.2.1.out (by simp))) (hx (h.2.2.out.trans0 hk))))
    unfold midS at HG
    go_region_held3 (fun w3 => ((midOf w3 b o1 5 = (stc p.s).toArray ∧ hasMid w3 b o1 5 = true) ∧ (midOf w3 b o2 5 = (stc q.s).toArray ∧ hasMid w3 b o2 5 = true)) ∧ (Hx (Blk w3 b xs T) ∧ Hx (Kept [] w w3)))
      (first | exact hSS | exact ⟨⟨midS_of HB.out.drew (pac_s HP1.out), midS_of HB.out.drew (pac_s HP2.out)⟩, ⟨HB.out.drew⟩, ⟨(Kept.refl _ _).drew⟩⟩ | assumption)
      (first
       | (go_at_call 101; refine (sbetter_any p.s q.s _ k HP.out HQ.out).mono ?_; rintro e w' ⟨rfl, hk⟩; have hSS := HG.out _ _ ‹_› hk))
    all_goals
      go_wp2
      go_ret
      exact ⟨by rw [← z.out]; rfl, hSS.2.2.out⟩
  · have z := hx (key_ne p q k hp hq h)
    have hne : (stateI p.quiet != stateI q.quiet) = true := by simp [bne, h]
    generalize stateI q.quiet = y at *
    generalize stateI p.quiet = x at *
    clear hb hp1 hp2 hp hq h
    go_enter Tryz.func90, Tryz.ntmps90
    go_wp2_with fail
    refine HS.out.mono ?_
    rintro e w1 ⟨rfl, rfl⟩
    go_wp2_with fail
    refine HT.out.mono ?_
    rintro e w1 ⟨rfl, rfl⟩
    go_wp2_with fail
    refine HS.out.mono ?_
    rintro e w1 ⟨rfl, rfl⟩
    go_wp2_with fail
    refine HT.out.mono ?_
    rintro e w1 ⟨rfl, rfl⟩
    go_wp2
    go_ret
    exact ⟨by rw [← z.out]; rfl, Kept.refl _ _⟩
def keyF (ps : List Pa) : Nat → Int := fun i => keyI (ps.getD i pa0)
def ints (l : List Nat) : List Value := l.map (fun x : Nat => Value.int .i64 (x : Int))
theorem ints_len (l : List Nat) : (ints l).length = l.length := by simp [ints]
theorem ints_get (l : List Nat) (i : Nat) (h : i < l.length) : (ints l)[i]? = some (.int .i64 ((l.getD i 0 : Nat) : Int)) := by
  simp [ints, List.getD, h]
theorem ints_one (l : List Nat) : ∀ v ∈ ints l, v.oneCell' = true := by
  intro v hv
  simp only [ints, List.mem_map] at hv
  obtain ⟨x, _, rfl⟩ := hv
  rfl
theorem infoInt : (Tryz.prog.info? 3).map (fun i => (i.zero, i.size, i.bytes)) = some (some (.int .i64 0), 1, 8) := by kernel_rfl
structure Ways (w : World) (n : Nat) (b : Nat) (xs : List Value) (T : TypeId) (ps : List Pa) : Prop where
  blk : Blk w b xs T
  part : ∀ i, i < n → Part xs (i * 15) (pac (ps.getD i pa0))
  ok : ∀ i, i < n → StOk (ps.getD i pa0).s 1000000
theorem Ways.kept {w w2 : World} {n b : Nat} {xs : List Value} {T : TypeId} {ps : List Pa} (h : Ways w n b xs T ps) (hk : Kept [] w w2) : Ways w2 n b xs T ps :=
  ⟨hk.blk h.blk (by simp), h.part, h.ok⟩
/-- A list of pointers to the ways. -/
def Ptrs (w : World) (a : Option Addr) (n : Nat) (b : Nat) : Prop := ∀ i, i < n → ∃ g, a = some ⟨g, 0, none⟩ ∧ w.cell? ⟨g, i, none⟩ = some (.pointer (some ⟨b, i * 15, none⟩))
theorem Ptrs.kept {w w2 : World} {a : Option Addr} {n b : Nat} (h : Ptrs w a n b) (hk : Kept [] w w2) : Ptrs w2 a n b := fun i hi => by
  obtain ⟨g, h1, h2⟩ := h i hi
  exact ⟨g, h1, by rw [hk.cell (p := ⟨g, i, none⟩) (block_lt_of_cell h2) (by simp)]; exact h2⟩
theorem own_len {w : World} {base : Nat} {e : TypeId} {v : Value} {n : Nat} {l : List Nat} (h : w.ownsRow base e 1 v n (ints l)) : l.length = n := by
  have := h.1
  rw [ints_len] at this
  omega
theorem own_take {w : World} {base : Nat} {e : TypeId} {g n c : Nat} {l : List Nat} (h : w.ownsRow base e 1 (.slice (some ⟨g, 0, none⟩) n c) n (ints l)) (k : Nat) (hk : k ≤ n) : w.ownsRow base e 1 (.slice (some ⟨g, 0, none⟩) k c) k (ints (l.take k)) := by
  have hl := own_len h
  refine ⟨by simp [ints_len, hl]; omega, ?_⟩
  rcases h.2 with ⟨h', _⟩ | ⟨g', cap', cur, h', hb, hg, hnc, hcm, hcs, htake⟩
  · simp at h'
  · simp only [Value.slice.injEq, Option.some.injEq, Addr.mk.injEq, and_true, true_and] at h'
    obtain ⟨rfl, rfl⟩ := h'
    refine .inr ⟨_, _, cur, rfl, hb, hg, by omega, hcm, hcs, ?_⟩
    have e : ints (l.take k) = (ints l).take k := by simp [ints, List.map_take]
    rw [e, ← htake, List.take_take]
    congr 1
    omega
theorem own_kept {w w2 : World} {base : Nat} {e : TypeId} {v : Value} {n : Nat} {xs : List Value} (h : w.ownsRow base e 1 v n xs) (hk : Kept [] w w2) : w2.ownsRow base e 1 v n xs :=
  h.kept (row := none) ⟨hk.os, hk.tape, hk.output, hk.size, fun k hk' _ => hk.block k hk' (by simp)⟩ (by cases hv : v.ownBlock <;> simp)
theorem own_cell {w : World} {base : Nat} {e : TypeId} {g n c : Nat} {l : List Nat} (h : w.ownsRow base e 1 (.slice (some ⟨g, 0, none⟩) n c) n (ints l)) (k : Nat) (hk : k < n) : w.cell? ⟨g, k, none⟩ = some (.int .i64 ((l.getD k 0 : Nat) : Int)) := by
  rw [h.cellAt k (by omega)]
  exact ints_get l k (by have := own_len h; omega)
theorem own_cap {w : World} {base : Nat} {e : TypeId} {g n c : Nat} {xs : List Value} (h : w.ownsRow base e 1 (.slice (some ⟨g, 0, none⟩) n c) n xs) : n ≤ c ∧ c ≤ maxLen := by
  rcases h.2 with ⟨h', _⟩ | ⟨g', cap', cur, h', hb, hg, hnc, hcm, hcs, htake⟩
  · simp at h'
  · simp only [Value.slice.injEq, Option.some.injEq, Addr.mk.injEq, and_true, true_and] at h'
    obtain ⟨rfl, rfl⟩ := h'
    exact ⟨hnc, hcm⟩
theorem kept_cell' {w w' : World} {p : Addr} {v : Value} (hk : Kept [] w w') (h : w.cell? p = some v) : w'.cell? p = some v := by
  rw [hk.cell (block_lt_of_cell h) (by simp)]; exact h
theorem own_drop {w : World} {base : Nat} {e : TypeId} {g n c : Nat} {l : List Nat} (h : w.ownsRow base e 1 (.slice (some ⟨g, 0, none⟩) n c) n (ints l)) (k : Nat) : ∀ ad, some (⟨g, k, none⟩ : Addr) = some ad → ∀ j u, (ints (l.drop k))[j]? = some u → w.cell? (ad.add j) = some u := by
  intro ad ha j u hu
  simp only [Option.some.injEq] at ha
  subst ha
  rw [Addr.add_mid]
  have hl := own_len h
  have e1 : ints (l.drop k) = (ints l).drop k := by simp [ints, List.map_drop]
  rw [e1, List.getElem?_drop] at hu
  have hj : k + j < n := by have := (List.getElem?_eq_some_iff.1 hu).1; rw [ints_len] at this; omega
  rw [h.cellAt (k + j) (by omega)]
  exact hu
theorem own_news {w : World} {base : Nat} {e : TypeId} {g n c : Nat} {xs : List Value} (h : w.ownsRow base e 1 (.slice (some ⟨g, 0, none⟩) n c) n xs) : ∀ ad, some (⟨g, 0, none⟩ : Addr) = some ad → ∀ j u, xs[j]? = some u → w.cell? (ad.add j) = some u := by
  intro ad ha j u hu
  simp only [Option.some.injEq] at ha
  subst ha
  exact h.cells rfl j u hu
theorem one_app (i : Nat) (l : List Nat) : ∀ u ∈ [Value.int .i64 (i : Int)] ++ ints l, u.oneCell' = true := by
  intro u hu
  simp only [List.mem_append, List.mem_singleton] at hu
  rcases hu with rfl | hu
  · rfl
  · exact ints_one l u hu
theorem one_int (i : Nat) : ∀ u ∈ [Value.int .i64 (i : Int)], u.oneCell' = true := by
  intro u hu
  simp only [List.mem_singleton] at hu
  rw [hu]; rfl
theorem own_put {w : World} {base : Nat} {e : TypeId} {v : Value} {k i : Nat} {out : List Nat} (h : w.ownsRow base e 1 v (k + (1 + (i - k))) (ints (out.take k) ++ ([.int .i64 (i : Int)] ++ ints (out.drop k)))) (hk : k ≤ i) : w.ownsRow base e 1 v (i + 1) (ints (out.take k ++ i :: out.drop k)) := by
  have e1 : k + (1 + (i - k)) = i + 1 := by omega
  rw [e1] at h
  have e2 : ints (out.take k ++ i :: out.drop k) = ints (out.take k) ++ ([.int .i64 (i : Int)] ++ ints (out.drop k)) := by simp [ints]
  rw [e2]
  exact h
theorem own_put2 {w : World} {base : Nat} {e : TypeId} {v : Value} {k i : Nat} {out : List Nat} (h : w.ownsRow base e 1 v (k + 1) (ints (out.take k) ++ [.int .i64 (i : Int)])) (hk : k = i) (ho : out.length = i) : w.ownsRow base e 1 v (i + 1) (ints (out.take k ++ i :: out.drop k)) := by
  subst hk
  have e1 : out.drop k = [] := List.drop_eq_nil_of_le (by omega)
  rw [e1]
  have e2 : ints (out.take k ++ [k]) = ints (out.take k) ++ [.int .i64 (k : Int)] := by simp [ints]
  rw [e2]
  exact h
theorem drop_len (i k : Nat) (out : List Nat) (h : out.length = i) : (ints (out.drop k)).length = (i - k) * 1 := by rw [ints_len, List.length_drop, h]; omega
theorem app_len (i k : Nat) (out : List Nat) (h : out.length = i) : ([Value.int .i64 (i : Int)] ++ ints (out.drop k)).length = (1 + (i - k)) * 1 := by rw [List.length_append, drop_len i k out h]; simp
set_option maxRecDepth 100000 in
set_option maxHeartbeats 12000000 in
theorem order_any (a : Option Addr) (n cap bs : Nat) (xs : List Value) (T : TypeId) (ps : List Pa) (w : World) (hP : Ptrs w a n bs) (hW : Ways w n bs xs T ps) (hn : n ≤ 8) :
    Calls Tryz.prog 76 #[.slice a n cap] w fun e w' => ∃ u l, e = .returned u ∧ Srt (keyF ps) n l ∧ w'.ownsRow w.heap.size 3 1 u n (ints l) ∧ Kept [] w w' := by
  have HP := hx hP
  have HW := hx hW
  clear hP hW
  go_enter Tryz.func76, Tryz.ntmps76
  go_wp2
  go_loopw [8, 3] (fun iv ov wr => ∃ (i : Nat) (out : List Nat) (u : Value), i ≤ n ∧ iv = .int .i64 i ∧ u = ov ∧ (i = 0 → u = .slice none 0 0) ∧ Srt (keyF ps) i out ∧ wr.ownsRow w.heap.size 3 1 u i (ints out) ∧ Kept [] w wr) (fun iv _ _ => n - (intOf iv).toNat)
  case atStart => exact ⟨0, [], _, by omega, rfl, rfl, fun _ => rfl, Srt.nil _, World.ownsRow_nil _ _ _ _, Kept.refl _ _⟩
  case round =>
    obtain ⟨i, out, u, hi, rfl, rfl, hu, hs, ho, hk⟩ := hrel
    have HS := hx hs
    have HO := hx ho
    have HK := hx hk
    have HU := hx hu
    clear hs ho hk hu
    by_cases hlt : i < n
    · have hli : (i : Int) < (n : Int) := by omega
      rcases Nat.eq_zero_or_pos i with rfl | hpos
      · obtain rfl := HU.out rfl
        obtain rfl : out = [] := List.eq_nil_of_length_eq_zero (own_len HO.out)
        clear HU
        go_wp2
        go_loopw [5] (fun kv w5 => kv = .int .i64 0 ∧ Kept [] wr w5) (fun _ _ => 0)
        case atStart => exact ⟨rfl, Kept.refl _ _⟩
        case round =>
          obtain ⟨rfl, hk5⟩ := hrel
          have HKW0 := hx (HK.out.trans0 hk5)
          clear hk5 HK
          go_wp2_with fail
          go_quiet (fail)
          go_upto_region 8 with fail
          have HKW := hx (HKW0.out.drewN nq)
          clear HKW0
          generalize World.drewN _ _ = W at *
          have HB := hx (World.ownsRow_lit (base := w.heap.size) (e := 3) (size := 1) W.drew #[.int .i64 (0 : Int)] 1 HKW.out.size (by decide) rfl)
          have HKA := hx (HKW.out.drew.alloc (.cells #[.int .i64 (0 : Int)] 3))
          have HSZ := hx (show w.heap.size ≤ (W.drew.alloc (.cells #[.int .i64 (0 : Int)] 3)).heap.size by have h := HKA.out.size; exact h)
          have HR := hx (HS.out.put (Plc.top (keyF ps) 0 []) (.inl rfl))
          clear HKW HO
          go_region_law (first
            | (refine step_app rfl (.tmp 34) (.tmp 40) 81 rfl w.heap.size 3 (.int .i64 0) 1 8 infoInt Tryz.underlying81 rfl (by omega) (.slice none 0 0) 0 [] rfl (World.ownsRow_nil _ _ _ _) (some ⟨W.heap.size, 0, none⟩) 1 1 [.int .i64 (0 : Int)] rfl rfl (by simp) (by omega) (own_news HB.out) (one_int 0) (by unfold maxLen; omega) (by omega) HSZ.out ?_; intro v5 w5 ho5 hg5; have HO5' := hx ho5; have HK5' := hx (HKA.out.grown hg5 (fun q hq => by simp [Value.ownBlock] at hq)); clear ho5 hg5))
          all_goals
            go_wp2
            go_roundw
            case rel => exact ⟨1, [0], v5, by omega, rfl, rfl, fun h => absurd h (by omega), HR.out, HO5'.out, HK5'.out⟩
            case measure => simp [intOf] <;> omega
      · obtain ⟨g, c, rfl, hg, _⟩ := HO.out.form hpos
        clear HU
        go_wp2
        go_loopw [5] (fun kv w5 => ∃ k : Nat, k ≤ i ∧ kv = .int .i64 k ∧ Plc (keyF ps) i out k ∧ Kept [] wr w5) (fun kv _ => (intOf kv).toNat)
        case atStart => exact ⟨i, by omega, rfl, by have h := Plc.top (keyF ps) i out; rw [own_len HO.out] at h; exact h, Kept.refl _ _⟩
        case round =>
          obtain ⟨k, hki, rfl, hpl, hk5⟩ := hrel
          have HPL := hx hpl
          have HK5 := hx hk5
          have HO5 := hx (own_kept HO.out hk5)
          clear hpl hk5
          rcases Nat.eq_zero_or_pos k with rfl | hkp
          · go_wp2_with fail
            go_quiet (fail)
            go_upto_region 8 with fail
            have HKW := hx ((HK.out.trans0 HK5.out).drewN nq)
            have HOW := hx (own_kept HO5.out ((Kept.refl [] _).drewN nq))
            have HPK := hx (show 0 = 0 ∨ keyF ps (out.getD (0 - 1) 0) ≤ keyF ps i from .inl rfl)
            generalize World.drewN _ _ = W at *
            have HR := hx (HS.out.put HPL.out HPK.out)
            have HCP := hx (own_cap HOW.out)
            have HB := hx (World.ownsRow_lit (base := w.heap.size) (e := 3) (size := 1) W.drew #[.int .i64 (i : Int)] 1 HKW.out.size (by decide) rfl)
            have HOA := hx (HOW.out.drew.alloc (.cells #[.int .i64 (i : Int)] 3))
            have HKA := hx (HKW.out.drew.alloc (.cells #[.int .i64 (i : Int)] 3))
            have HGN := hx (HOW.out.lt g rfl)
            have hkc : ((0 : Nat) : Int) ≤ (c : Int) := by have h := HCP.out; omega
            have hic : ((i : Nat) : Int) ≤ (c : Int) := by have h := HCP.out; omega
            have hki' : ((0 : Nat) : Int) ≤ (i : Int) := by omega
            have hlen := own_len HOW.out
            have H1 := hx (drop_len i 0 out hlen)
            have H2 := hx (app_len i 0 out hlen)
            have HSZ := hx (show w.heap.size ≤ (W.drew.alloc (.cells #[.int .i64 (i : Int)] 3)).heap.size by have h := HKA.out.size; exact h)
            have hi8 : i ≤ 8 := by omega
            have HNE := hx (show g ≠ W.heap.size by have h := HGN.out.2; omega)
            have HWS := hx (show w.heap.size ≤ W.heap.size from HKW.out.size)
            clear HK HO HK5 HO5 HKW
            go_region_law (first
              | (refine step_app rfl (.tmp 36) (.tmp 39) 81 rfl w.heap.size 3 (.int .i64 0) 1 8 infoInt Tryz.underlying81 rfl (by omega) (.slice (some ⟨W.heap.size, 0, none⟩) 1 1) 1 [.int .i64 (i : Int)] rfl HB.out (some ⟨g, 0, none⟩) (i - 0) (c - 0) (ints (out.drop 0)) rfl H1.out (by simp) (by omega) (own_drop HOA.out 0) (ints_one _) (by unfold maxLen; omega) (by omega) HSZ.out ?_; intro v4 w4 ho4 hg4; obtain ⟨g4, c4, rfl, hg4a, hg4b⟩ := ho4.form (by omega); have HC4 := hx (own_cap ho4); have HO4 := hx ho4; have HT4 := hx ((own_take HOA.out 0 (by omega)).kept hg4 (.inr (by simp [Value.ownBlock]; exact HNE.out))); have HK4 := hx (HKA.out.grown hg4 (fun q hq => .inr (by simp [Value.ownBlock] at hq; subst hq; exact HWS.out))); clear ho4 hg4)
              | (refine step_app rfl (.tmp 34) (.tmp 40) 81 rfl w.heap.size 3 (.int .i64 0) 1 8 infoInt Tryz.underlying81 rfl (by omega) (.slice (some ⟨g, 0, none⟩) 0 c) 0 (ints (out.take 0)) rfl HT4.out (some ⟨g4, 0, none⟩) (1 + (i - 0)) c4 ([.int .i64 (i : Int)] ++ ints (out.drop 0)) rfl H2.out (by simp) HC4.out.1 (own_news HO4.out) (one_app i _) (by unfold maxLen; omega) (by omega) HK4.out.size ?_; intro v5 w5 ho5 hg5; have HO5' := hx (own_put ho5 hki); have HK5' := hx (HK4.out.grown hg5 (fun q hq => .inr (by simp [Value.ownBlock] at hq; subst hq; exact HGN.out.1))); clear ho5 hg5))
            all_goals
              go_wp2
              go_roundw
              case rel => exact ⟨i + 1, _, v5, by omega, by go_num, rfl, fun h => absurd h (by omega), HR.out, HO5'.out, HK5'.out⟩
              case measure => simp [intOf] <;> omega
          · obtain ⟨j, rfl⟩ : ∃ j, k = j + 1 := ⟨k - 1, by omega⟩
            obtain ⟨ga, rfl, hca⟩ := (HP.out.kept (HK.out.trans0 HK5.out)) i hlt
            have hlen := own_len HO.out
            have hxl : out.getD j 0 < i := (HS.out.mem _).1 (by rw [List.getD, List.getElem?_eq_getElem (show j < out.length by omega)]; exact List.getElem_mem _)
            obtain ⟨gb, hgb, hcb⟩ := (HP.out.kept (HK.out.trans0 HK5.out)) (out.getD j 0) (by omega)
            simp only [Option.some.injEq, Addr.mk.injEq, and_true] at hgb
            obtain rfl := hgb
            have hcc := own_cell HO5.out j (by omega)
            have HWW := hx (HW.out.kept (HK.out.trans0 HK5.out))
            have HPD := hx (fun h => Plc.down (K := keyF ps) (n := i) (l := out) (k := j) HPL.out h)
            have HPS := hx (show ¬ keyF ps i < keyF ps (out.getD j 0) → (j + 1 = 0 ∨ keyF ps (out.getD (j + 1 - 1) 0) ≤ keyF ps i) by intro h; right; rw [Nat.add_sub_cancel]; omega)
            have HA := hx (fun (w : World) (h : Ways w n bs xs T ps) => show Calls Tryz.prog 90 #[.pointer (some ⟨bs, i * 15, none⟩), .pointer (some ⟨bs, (out.getD j 0) * 15, none⟩)] w fun e w' => e = .returned (.bool (decide (keyF ps i < keyF ps (out.getD j 0)))) ∧ Kept [] w w' from aheadO_any bs (i * 15) ((out.getD j 0) * 15) xs T (ps.getD i pa0) (ps.getD (out.getD j 0) pa0) w 1000000 (h.ok i hlt) (h.ok _ (by omega)) h.blk (h.part i hlt) (h.part _ (by omega)))
            have hxn : ((out.getD j 0 : Nat) : Int) < (n : Int) := by omega
            have hji : (j : Int) < (i : Int) := by omega
            have jw : IntKind.i64.wrap ((j : Int) + 1 - 1) = (j : Int) := by rw [IntKind.wrap_i64]; omega
            have jw2 : IntKind.i64.wrap (j : Int) = (j : Int) := by rw [IntKind.wrap_i64]; omega
            have jk : ((j + 1 : Nat) : Int) = (j : Int) + 1 := by omega
            have jp : decide ((0 : Int) < (j : Int) + 1) = true := by simp <;> omega
            generalize out.getD j 0 = x at *
            have HC := hx (And.intro hca (And.intro hcb hcc))
            clear hca hcb hcc
            have HA2 := hx (fun (w3 : World) (h : (w3.cell? ⟨ga, i, none⟩ = some (.pointer (some ⟨bs, i * 15, none⟩)) ∧ w3.cell? ⟨ga, x, none⟩ = some (.pointer (some ⟨bs, x * 15, none⟩)) ∧ w3.cell? ⟨g, j, none⟩ = some (.int .i64 (x : Int))) ∧ (Hx (Ways w3 n bs xs T ps) ∧ Hx (Kept [] wr w3))) => HA.out w3 h.2.1.out)
            clear HA
            have HG := hx (fun (w3 w4 : World) (h : (w3.cell? ⟨ga, i, none⟩ = some (.pointer (some ⟨bs, i * 15, none⟩)) ∧ w3.cell? ⟨ga, x, none⟩ = some (.pointer (some ⟨bs, x * 15, none⟩)) ∧ w3.cell? ⟨g, j, none⟩ = some (.int .i64 (x : Int))) ∧ (Hx (Ways w3 n bs xs T ps) ∧ Hx (Kept [] wr w3))) (hk : Kept [] w3 w4) =>
              And.intro (And.intro (kept_cell' hk h.1.1) (And.intro (kept_cell' hk h.1.2.1) (kept_cell' hk h.1.2.2))) (And.intro (hx (h.2.1.out.kept hk)) (hx (h.2.2.out.trans0 hk))))
            cases hD : decide (keyF ps i < keyF ps x)
            · rw [hD] at HA2
              go_wp2_with fail
              clear jk
              go_region_held3 (fun w3 => (w3.cell? ⟨ga, i, none⟩ = some (.pointer (some ⟨bs, i * 15, none⟩)) ∧ w3.cell? ⟨ga, x, none⟩ = some (.pointer (some ⟨bs, x * 15, none⟩)) ∧ w3.cell? ⟨g, j, none⟩ = some (.int .i64 (x : Int))) ∧ (Hx (Ways w3 n bs xs T ps) ∧ Hx (Kept [] wr w3)))
                (first | exact hSS | exact ⟨HC.out, hx (HWW.out.kept (Kept.refl _ _).drew), hx (Kept.refl _ _).drew⟩ | assumption)
                (first | (go_at_call 90; refine (HA2.out _ (by assumption)).mono ?_; rintro e w' ⟨rfl, hk⟩; have hSS := HG.out _ _ ‹_› hk))
              go_upto_region 8 with fail
              have HKW := hx ((HK.out.trans0 HK5.out).trans0 hSS.2.2.out)
              have HOW := hx (own_kept HO5.out hSS.2.2.out)
              have HPK := hx (HPS.out (by have h := of_decide_eq_false hD; omega))
              clear hSS jw jw2 jp HC HPD HPS HWW HG HA2 hD
              have hki : j + 1 ≤ i := by omega
              have hkc2 : (j : Int) + 1 ≤ (c : Int) := by have h := own_cap HOW.out; omega
              have hki2 : (j : Int) + 1 ≤ (i : Int) := by omega
              have hk02 : (0 : Int) ≤ (j : Int) + 1 := by omega
              by_cases hcj : c = j + 1
              · have hij : i ≤ c := (own_cap HOW.out).1
                subst hcj
                have HR := hx (HS.out.put HPL.out HPK.out)
                have HCP := hx (own_cap HOW.out)
                have HB := hx (World.ownsRow_lit (base := w.heap.size) (e := 3) (size := 1) w'.drew #[.int .i64 (i : Int)] 1 HKW.out.size (by decide) rfl)
                have HOA := hx (HOW.out.drew.alloc (.cells #[.int .i64 (i : Int)] 3))
                have HKA := hx (HKW.out.drew.alloc (.cells #[.int .i64 (i : Int)] 3))
                have HGN := hx (HOW.out.lt g rfl)
                have hkc : (((j + 1) : Nat) : Int) ≤ (j : Int) + 1 := by have h := HCP.out; omega
                have hic : ((i : Nat) : Int) ≤ (j : Int) + 1 := by have h := HCP.out; omega
                have hki' : (((j + 1) : Nat) : Int) ≤ (i : Int) := by omega
                have hlen := own_len HOW.out
                have H1 := hx (drop_len i (j + 1) out hlen)
                have H2 := hx (app_len i (j + 1) out hlen)
                have HSZ := hx (show w.heap.size ≤ (w'.drew.alloc (.cells #[.int .i64 (i : Int)] 3)).heap.size by have h := HKA.out.size; exact h)
                have hi8 : i ≤ 8 := by omega
                have HNE := hx (show g ≠ w'.heap.size by have h := HGN.out.2; omega)
                have HWS := hx (show w.heap.size ≤ w'.heap.size from HKW.out.size)
                clear HK HO HK5 HO5 HKW
                have HT4 := hx (own_take HOA.out (j + 1) (by omega))
                go_region_law (first
                  | (refine step_app rfl (.tmp 34) (.tmp 40) 81 rfl w.heap.size 3 (.int .i64 0) 1 8 infoInt Tryz.underlying81 rfl (by omega) (.slice (some ⟨g, 0, none⟩) (j + 1) (j + 1)) (j + 1) (ints (out.take (j + 1))) rfl HT4.out (some ⟨w'.heap.size, 0, none⟩) 1 1 [.int .i64 (i : Int)] rfl rfl (by simp) (by omega) (own_news HB.out) (one_int i) (by unfold maxLen; omega) (by omega) HSZ.out ?_; intro v5 w5 ho5 hg5; have HO5' := hx (own_put2 ho5 (by omega) hlen); have HK5' := hx (HKA.out.grown hg5 (fun q hq => .inr (by simp [Value.ownBlock] at hq; subst hq; exact HGN.out.1))); clear ho5 hg5))
                all_goals
                  go_wp2
                  go_roundw
                  case rel => exact ⟨i + 1, _, v5, by omega, by go_num, rfl, fun h => absurd h (by omega), HR.out, HO5'.out, HK5'.out⟩
                  case measure => simp [intOf] <;> omega
              · have HR := hx (HS.out.put HPL.out HPK.out)
                have HCP := hx (own_cap HOW.out)
                have HB := hx (World.ownsRow_lit (base := w.heap.size) (e := 3) (size := 1) w'.drew #[.int .i64 (i : Int)] 1 HKW.out.size (by decide) rfl)
                have HOA := hx (HOW.out.drew.alloc (.cells #[.int .i64 (i : Int)] 3))
                have HKA := hx (HKW.out.drew.alloc (.cells #[.int .i64 (i : Int)] 3))
                have HGN := hx (HOW.out.lt g rfl)
                have hkc : (((j + 1) : Nat) : Int) ≤ (c : Int) := by have h := HCP.out; omega
                have hic : ((i : Nat) : Int) ≤ (c : Int) := by have h := HCP.out; omega
                have hki' : (((j + 1) : Nat) : Int) ≤ (i : Int) := by omega
                have hlen := own_len HOW.out
                have H1 := hx (drop_len i (j + 1) out hlen)
                have H2 := hx (app_len i (j + 1) out hlen)
                have HSZ := hx (show w.heap.size ≤ (w'.drew.alloc (.cells #[.int .i64 (i : Int)] 3)).heap.size by have h := HKA.out.size; exact h)
                have hi8 : i ≤ 8 := by omega
                have HNE := hx (show g ≠ w'.heap.size by have h := HGN.out.2; omega)
                have HWS := hx (show w.heap.size ≤ w'.heap.size from HKW.out.size)
                clear HK HO HK5 HO5 HKW
                go_region_law (first
                  | (refine step_app rfl (.tmp 36) (.tmp 39) 81 rfl w.heap.size 3 (.int .i64 0) 1 8 infoInt Tryz.underlying81 rfl (by omega) (.slice (some ⟨w'.heap.size, 0, none⟩) 1 1) 1 [.int .i64 (i : Int)] rfl HB.out (some ⟨g, (j + 1), none⟩) (i - (j + 1)) (c - (j + 1)) (ints (out.drop (j + 1))) rfl H1.out (by simp) (by omega) (own_drop HOA.out (j + 1)) (ints_one _) (by unfold maxLen; omega) (by omega) HSZ.out ?_; intro v4 w4 ho4 hg4; obtain ⟨g4, c4, rfl, hg4a, hg4b⟩ := ho4.form (by omega); have HC4 := hx (own_cap ho4); have HO4 := hx ho4; have HT4 := hx ((own_take HOA.out (j + 1) (by omega)).kept hg4 (.inr (by simp [Value.ownBlock]; exact HNE.out))); have HK4 := hx (HKA.out.grown hg4 (fun q hq => .inr (by simp [Value.ownBlock] at hq; subst hq; exact HWS.out))); clear ho4 hg4)
                  | (refine step_app rfl (.tmp 34) (.tmp 40) 81 rfl w.heap.size 3 (.int .i64 0) 1 8 infoInt Tryz.underlying81 rfl (by omega) (.slice (some ⟨g, 0, none⟩) (j + 1) c) (j + 1) (ints (out.take (j + 1))) rfl HT4.out (some ⟨g4, 0, none⟩) (1 + (i - (j + 1))) c4 ([.int .i64 (i : Int)] ++ ints (out.drop (j + 1))) rfl H2.out (by simp) HC4.out.1 (own_news HO4.out) (one_app i _) (by unfold maxLen; omega) (by omega) HK4.out.size ?_; intro v5 w5 ho5 hg5; have HO5' := hx (own_put ho5 hki); have HK5' := hx (HK4.out.grown hg5 (fun q hq => .inr (by simp [Value.ownBlock] at hq; subst hq; exact HGN.out.1))); clear ho5 hg5))
                all_goals
                  go_wp2
                  go_roundw
                  case rel => exact ⟨i + 1, _, v5, by omega, by go_num, rfl, fun h => absurd h (by omega), HR.out, HO5'.out, HK5'.out⟩
                  case measure => simp [intOf] <;> omega
            · rw [hD] at HA2
              go_wp2_with fail
              clear jk
              go_region_held3 (fun w3 => (w3.cell? ⟨ga, i, none⟩ = some (.pointer (some ⟨bs, i * 15, none⟩)) ∧ w3.cell? ⟨ga, x, none⟩ = some (.pointer (some ⟨bs, x * 15, none⟩)) ∧ w3.cell? ⟨g, j, none⟩ = some (.int .i64 (x : Int))) ∧ (Hx (Ways w3 n bs xs T ps) ∧ Hx (Kept [] wr w3)))
                (first | exact hSS | exact ⟨HC.out, hx (HWW.out.kept (Kept.refl _ _).drew), hx (Kept.refl _ _).drew⟩ | assumption)
                (first | (go_at_call 90; refine (HA2.out _ (by assumption)).mono ?_; rintro e w' ⟨rfl, hk⟩; have hSS := HG.out _ _ ‹_› hk))
              have HP7 := hx (HPD.out (of_decide_eq_true hD))
              have HK7 := hx (HK5.out.trans0 hSS.2.2.out)
              clear hSS jw2 jp HC HPD HPS HWW HG HA2 hD
              go_wp2
              go_roundw
              case rel => exact ⟨j, by omega, by go_num, HP7.out, HK7.out⟩
              case measure => simp [intOf] <;> omega
    · obtain rfl : i = n := by omega
      go_wp2
      go_ret
      exact ⟨_, out, rfl, HS.out, HO.out, HK.out⟩
end Go.Proofs.YtgdofgckjkmhjaaGreat
namespace Go.Proofs.YtgdofgckjkmhjaaGreat
open Go Go.RowKit

def bv (b : UInt8) : Value := .int .u8 (b.toNat : Int)

/-- The slice v reads as the bytes l. -/
structure Bts (w : World) (a : Option Addr) (len cap : Nat) (l : List UInt8) : Prop where
  hlen : len = l.length
  hle : len ≤ cap
  htop : cap ≤ maxLen
  hnil : a = none → cap = 0
  hcell : ∀ i (h : i < l.length), ∃ b off, a = some ⟨b, off, none⟩ ∧ w.cell? ⟨b, off + i, none⟩ = some (.int .u8 (l[i].toNat : Int))

theorem Bts.some {w : World} {a : Option Addr} {len cap : Nat} {l : List UInt8} (h : Bts w a len cap l) (hl : 0 < l.length) : ∃ b off, a = some ⟨b, off, none⟩ := by
  obtain ⟨b, off, h1, _⟩ := h.hcell 0 hl
  exact ⟨b, off, h1⟩
theorem Bts.at {w : World} {b off len cap : Nat} {l : List UInt8} (h : Bts w (Option.some ⟨b, off, none⟩) len cap l) (i : Nat) (hi : i < l.length) : w.cell? ⟨b, off + i, none⟩ = Option.some (.int .u8 (l[i].toNat : Int)) := by
  obtain ⟨b', off', h1, h2⟩ := h.hcell i hi
  simp only [Option.some.injEq, Addr.mk.injEq] at h1
  obtain ⟨rfl, rfl, _⟩ := h1
  exact h2
theorem Bts.same {w w' : World} {a : Option Addr} {len cap : Nat} {l : List UInt8} (h : Bts w a len cap l) (hc : ∀ p : Addr, p.block < w.heap.size → w'.cell? p = w.cell? p) : Bts w' a len cap l :=
  ⟨h.hlen, h.hle, h.htop, h.hnil, fun i hi => by
    obtain ⟨b, off, h1, h2⟩ := h.hcell i hi
    refine ⟨b, off, h1, ?_⟩
    rw [hc _ ?_]; exact h2
    show b < w.heap.size
    unfold World.cell? at h2
    rcases Nat.lt_or_ge b w.heap.size with h' | h'
    · exact h'
    · simp [Array.getElem?_eq_none h'] at h2⟩
theorem Bts.kept {w w' : World} {a : Option Addr} {len cap : Nat} {l : List UInt8} (h : Bts w a len cap l) (hk : Kept [] w w') : Bts w' a len cap l :=
  h.same fun p hp => hk.cell hp (by simp)
theorem Bts.drew {w : World} {a : Option Addr} {len cap : Nat} {l : List UInt8} (h : Bts w a len cap l) : Bts w.drew a len cap l := h.kept (Kept.refl _ _).drew
theorem Bts.drewN {w : World} {a : Option Addr} {len cap : Nat} {l : List UInt8} (h : Bts w a len cap l) (n : Nat) : Bts (w.drewN n) a len cap l := h.kept ((Kept.refl _ _).drewN n)
theorem Bts.take {w : World} {a : Option Addr} {len cap : Nat} {l : List UInt8} (h : Bts w a len cap l) (n : Nat) (hn : n ≤ l.length) : Bts w a n cap (l.take n) :=
  ⟨by simp; omega, by have := h.hle; have := h.hlen; omega, h.htop, h.hnil, fun i hi => by
    have hi' : i < n := by simp at hi; omega
    obtain ⟨b, off, h1, h2⟩ := h.hcell i (by omega)
    exact ⟨b, off, h1, by rw [h2]; simp⟩⟩
theorem Bts.ofBlk {w : World} {b off cap : Nat} {xs : List Value} {T : TypeId} (h : Blk w b xs T) {l : List UInt8} (hl : l.length ≤ cap) (ht : cap ≤ maxLen) (hx : ∀ i (h : i < l.length), xs[off + i]? = Option.some (Value.int .u8 (l[i].toNat : Int))) :
    Bts w (Option.some ⟨b, off, none⟩) l.length cap l :=
  ⟨rfl, hl, ht, fun h => by simp at h, fun i hi => ⟨b, off, rfl, h.cell (hx i hi)⟩⟩
theorem take_fold {α : Type} (f : α → UInt8 → α) (l : List UInt8) (k : Nat) (h : k < l.length) (a : α) : (l.take (k + 1)).foldl f a = f ((l.take k).foldl f a) l[k] := by
  rw [List.take_succ_eq_append_getElem h, List.foldl_append]; rfl

/-- What the call owns reads as bytes. -/
theorem Bts.own {w : World} {base n : Nat} {v : Value} {T : TypeId} {l : List UInt8} (h : w.ownsRow base T 1 v n (l.map bv)) : ∃ a cap, v = .slice a n cap ∧ Bts w a n cap l := by
  obtain ⟨h1, h2⟩ := h
  simp at h1
  rcases h2 with ⟨rfl, rfl⟩ | ⟨g, cap, cur, rfl, hb, hg, hn, hc, hs, ht⟩
  · exact ⟨none, 0, rfl, h1.symm, Nat.le_refl _, by unfold maxLen; omega, fun _ => rfl, fun i hi => by omega⟩
  · refine ⟨_, cap, rfl, h1.symm, hn, hc, fun h => by simp at h, fun i hi => ⟨g, 0, rfl, ?_⟩⟩
    have hx : (cur.toList.take (n * 1))[i]? = Option.some (Value.int .u8 (l[i].toNat : Int)) := by
      rw [ht]; simp [hi, bv]
    rw [List.getElem?_take_of_lt (by omega)] at hx
    simp at hx
    simp [World.cell?, hg, hx]
theorem own_blk {w : World} {base : Nat} {T : TypeId} {b : Nat} {xs : List Value} (h : Blk w b xs T) (hb : base ≤ b) (hm : xs.length ≤ maxLen) : w.ownsRow base T 1 (.slice (Option.some ⟨b, 0, none⟩) xs.length xs.length) xs.length xs :=
  ⟨by simp, .inr ⟨b, xs.length, xs.toArray, rfl, hb, h, Nat.le_refl _, hm, by simp, by simp⟩⟩
theorem own_down {w : World} {b b' n : Nat} {v : Value} {T : TypeId} {xs : List Value} (h : w.ownsRow b T 1 v n xs) (hb : b' ≤ b) : w.ownsRow b' T 1 v n xs := by
  obtain ⟨h1, h2⟩ := h
  refine ⟨h1, ?_⟩
  rcases h2 with h2 | ⟨g, cap, cur, hv, hg, r⟩
  · exact .inl h2
  · exact .inr ⟨g, cap, cur, hv, Nat.le_trans hb hg, r⟩
theorem own_empty {w : World} {base g : Nat} {T : TypeId} (hg : g = w.heap.size) (h : base ≤ w.heap.size) : (w.alloc (.cells #[] T)).ownsRow base T 1 (.slice (Option.some ⟨g, 0, none⟩) 0 0) 0 [] := by
  subst hg
  exact own_blk (xs := []) (Blk.new' w #[] T) h (Nat.zero_le _)

theorem bts_of {w : World} {a : Option Addr} {len cap : Nat} {zs : List Int}
    (h : (a = none ∧ len = 0 ∧ cap = 0 ∧ zs = []) ∨ ∃ x, a = Option.some x ∧ len ≤ cap ∧ cap ≤ maxLen ∧ zs.length = cap ∧ (∀ i, i < zs.length → w.cell? (x.add i) = Option.some (.int .u8 (zs.getD i 0))) ∧ ∀ n ∈ zs, (Lit.int .u8 n).wf = true) :
    ∃ l, Bts w a len cap l := by
  rcases h with ⟨rfl, rfl, rfl, rfl⟩ | ⟨x, rfl, hl, hm, hz, hc, hw⟩
  · exact ⟨[], rfl, Nat.le_refl _, Nat.zero_le _, fun _ => rfl, fun i hi => by simp at hi⟩
  · refine ⟨(zs.take len).map fun z => UInt8.ofNat z.toNat, ?_, hl, hm, fun h => by simp at h, fun i hi => ?_⟩
    · simp; omega
    · simp at hi
      have h1 := hc i (by omega)
      have hs : x.spot = none := by
        have h4 := World.cell?_spot (hc 0 (by omega))
        simpa [Addr.add] using h4
      obtain ⟨b, off, spot⟩ := x
      simp at hs
      subst hs
      refine ⟨b, off, rfl, ?_⟩
      have h2 : w.cell? ⟨b, off + i, none⟩ = Option.some (.int .u8 (zs.getD i 0)) := by
        rcases Nat.eq_zero_or_pos i with rfl | h0
        · simpa [Addr.add] using h1
        · simpa [Addr.add, show i ≠ 0 by omega] using h1
      rw [h2]
      have hi2 : i < zs.length := by omega
      have h3 := hw zs[i] (List.getElem_mem _)
      simp [Lit.wf, IntKind.min, IntKind.max, IntKind.signed, IntKind.bits] at h3
      simp [List.getD, hi2]
      omega
theorem nat_u32 {a : Int} (h : (Lit.int .u32 a).wf = true) : ∃ n : Nat, a = n ∧ n < 4294967296 := by
  simp [Lit.wf, IntKind.min, IntKind.max, IntKind.signed, IntKind.bits] at h
  exact ⟨a.toNat, by omega, by omega⟩
theorem nat_u16 {a : Int} (h : (Lit.int .u16 a).wf = true) : ∃ n : Nat, a = n ∧ n < 65536 := by
  simp [Lit.wf, IntKind.min, IntKind.max, IntKind.signed, IntKind.bits] at h
  exact ⟨a.toNat, by omega, by omega⟩
theorem nat_u8 {a : Int} (h : (Lit.int .u8 a).wf = true) : ∃ n : Nat, a = n ∧ n < 256 := by
  simp [Lit.wf, IntKind.min, IntKind.max, IntKind.signed, IntKind.bits] at h
  exact ⟨a.toNat, by omega, by omega⟩
theorem int_i64 {a : Int} (h : (Lit.int .i64 a).wf = true) : -9223372036854775808 ≤ a ∧ a ≤ 9223372036854775807 := by
  simp [Lit.wf, IntKind.min, IntKind.max, IntKind.signed, IntKind.bits] at h
  omega
theorem own_get {w : World} {base n : Nat} {v : Value} {T : TypeId} {xs : List Value} (h : w.ownsRow base T 1 v n xs) (hn : 0 < n) : ∃ g cap rest, v = .slice (Option.some ⟨g, 0, none⟩) n cap ∧ base ≤ g ∧ n ≤ cap ∧ cap ≤ maxLen ∧ Blk w g (xs ++ rest) T ∧ xs.length = n ∧ (xs ++ rest).length = cap := by
  obtain ⟨h1, h2⟩ := h
  rcases h2 with ⟨rfl, rfl⟩ | ⟨g, cap, cur, rfl, hb, hg, hn2, hc, hs, ht⟩
  · omega
  · refine ⟨g, cap, cur.toList.drop n, rfl, hb, hn2, hc, ?_, by omega, ?_⟩
    · unfold Blk
      have e : xs ++ cur.toList.drop n = cur.toList := by rw [← ht, Nat.mul_one, List.take_append_drop]
      rw [e]; exact hg
    · have e : xs ++ cur.toList.drop n = cur.toList := by rw [← ht, Nat.mul_one, List.take_append_drop]
      rw [e]; simpa using hs
theorem bts_blk {w : World} {g cap : Nat} {l : List UInt8} {rest : List Value} {T : TypeId} (h : Blk w g (l.map bv ++ rest) T) (hl : l.length ≤ cap) (ht : cap ≤ maxLen) : Bts w (Option.some ⟨g, 0, none⟩) l.length cap l :=
  Bts.ofBlk h hl ht (fun i hi => by rw [Nat.zero_add, List.getElem?_append_left (by simpa using hi)]; simp [hi, bv])
end Go.Proofs.YtgdofgckjkmhjaaGreat
namespace Go.Proofs.YtgdofgckjkmhjaaGreat
open Go Go.RowKit
section
variable {P : Program} {w : World}
end
theorem Bts.news {w : World} {a : Option Addr} {m c : Nat} {l : List UInt8} (h : Bts w a m c l) : ∀ ad, a = Option.some ad → ∀ j u, (l.map bv)[j]? = Option.some u → w.cell? (ad.add j) = Option.some u := by
  rintro ad rfl j u hj
  rw [List.getElem?_map] at hj
  rcases Nat.lt_or_ge j l.length with hl | hl
  · obtain ⟨b, off, h1, h2⟩ := h.hcell j hl
    simp only [Option.some.injEq] at h1
    subst h1
    simp [hl, bv] at hj
    subst hj
    rcases Nat.eq_zero_or_pos j with rfl | h0
    · simpa [Addr.add] using h2
    · simpa [Addr.add, show j ≠ 0 by omega] using h2
  · simp [hl] at hj
theorem bv_one (l : List UInt8) : ∀ u ∈ l.map bv, u.oneCell' = true := by
  intro u hu
  simp only [List.mem_map] at hu
  obtain ⟨b, _, rfl⟩ := hu
  rfl
theorem infoU8 : (Tryz.prog.info? 5).map (fun i => (i.zero, i.size, i.bytes)) = some (some (.int .u8 0), 1, 1) := by kernel_rfl

theorem wpList_app8 {w : World} {ops : Array Oper} {rest : List Oper} {o : Oper} {a : Act} {Q : Exit → Act → World → Prop} (hgd : o.guard = none) (s x : Operand)
    (ho : o.op = .call { callee := .builtin .append, args := #[s, x], argTypes := #[48, 48] })
    (base : Nat) (v : Value) (n : Nat) (l : List UInt8) (hs : a.eval s = v) (hown : w.ownsRow base 5 1 v n (l.map bv))
    (ao : Option Addr) (m c : Nat) (k : List UInt8) (hx : a.eval x = .slice ao m c) (hk : Bts w ao m c k) (hroom : n + m ≤ 140737488355328) (hbase : base ≤ w.heap.size)
    (h : ∀ v' w', w'.ownsRow base 5 1 v' (n + m) ((l ++ k).map bv) → w.grownBy w' v.ownBlock → wpList Tryz.prog ops Q rest (a.put o.dst v') w') : wpList Tryz.prog ops Q (o :: rest) a w :=
  wpList_app hgd s x 48 ho base 5 (.int .u8 0) 1 1 infoU8 Tryz.underlying48 rfl (by decide) v n (l.map bv) hs hown ao m c (k.map bv) hx (by simp [hk.hlen]) hk.hnil hk.hle hk.news (bv_one k) (by unfold maxLen; omega) (by omega) hbase
    (fun v' w' r1 r2 => h v' w' (by rw [List.map_append]; exact r1) r2)
theorem step_app8 {w : World} {ops : Array Oper} {o : Oper} {a : Act} {K : Act → World → Prop} {Q : Exit → Act → World → Prop} {E : Prop} (hgd : o.guard = none) (s x : Operand)
    (ho : o.op = .call { callee := .builtin .append, args := #[s, x], argTypes := #[48, 48] })
    (base : Nat) (v : Value) (n : Nat) (l : List UInt8) (hs : a.eval s = v) (hown : w.ownsRow base 5 1 v n (l.map bv))
    (ao : Option Addr) (m c : Nat) (k : List UInt8) (hx : a.eval x = .slice ao m c) (hk : Bts w ao m c k) (hroom : n + m ≤ 140737488355328) (hbase : base ≤ w.heap.size)
    (h : ∀ v' w', w'.ownsRow base 5 1 v' (n + m) ((l ++ k).map bv) → w.grownBy w' v.ownBlock → K (a.put o.dst v') w') : if Region.wanted o (yielded ops a.tmps) = true then Oper.wp Tryz.prog o a w K Q else E :=
  step_app hgd s x 48 ho base 5 (.int .u8 0) 1 1 infoU8 Tryz.underlying48 rfl (by decide) v n (l.map bv) hs hown ao m c (k.map bv) hx (by simp [hk.hlen]) hk.hnil hk.hle hk.news (bv_one k) (by unfold maxLen; omega) (by omega) hbase
    (fun v' w' r1 r2 => h v' w' (by rw [List.map_append]; exact r1) r2)

theorem run_grow8 {w : World} (ty : TypeId) (ao : Option Addr) (n cap : Nat) (l : List UInt8) (hl : Bts w ao n cap l) (bo : Option Addr) (m c : Nat) (k : List UInt8) (hk : Bts w bo m c k) (hm : 0 < m) (hfull : cap < n + m) (hroom : n + m ≤ 140737488355328) :
    ∃ v' w', (Builtin.append_ #[48, 48] ty #[.slice ao n cap, .slice bo m c]).run Tryz.prog w = .ok v' w' ∧ w'.ownsRow w.heap.size 5 1 v' (n + m) ((l ++ k).map bv) ∧ w.grownBy w' none := by
  obtain ⟨i, hi, hz0, hz1, hz2⟩ := info_parts infoU8
  obtain ⟨b, o, rfl⟩ := hk.some (by have := hk.hlen; omega)
  cases ao with
  | some ad =>
    obtain ⟨v', w', hrun, r1, r2⟩ := run_append_arg_grows (P := Tryz.prog) w 48 ty 5 i (.int .u8 0) 1 1 Tryz.underlying48 hi hz0 hz1 hz2 rfl (by decide) ad n cap (l.map bv) (by simp [hl.hlen]) (hl.news ad rfl) ⟨b, o, none⟩ m c (k.map bv) (by simp [hk.hlen]) (hk.news _ rfl) hfull (by unfold maxLen; omega) (by omega)
    exact ⟨v', w', hrun, by rw [List.map_append]; exact r1, r2⟩
  | none =>
    obtain rfl := hl.hnil rfl
    obtain rfl : n = 0 := by have := hl.hle; omega
    obtain rfl : l = [] := List.eq_nil_of_length_eq_zero hl.hlen.symm
    obtain ⟨v', w', hrun, r1, r2, _⟩ := run_append_own (P := Tryz.prog) w w.heap.size 48 ty 5 i (.int .u8 0) 1 1 Tryz.underlying48 hi hz0 hz1 hz2 rfl (by decide) (.slice none 0 0) 0 [] (World.ownsRow_nil w _ _ 1) ⟨b, o, none⟩ m c (k.map bv) (by simp [hk.hlen]) (hk.news _ rfl) (bv_one k) (by unfold maxLen; omega) (by omega) (Nat.le_refl _)
    exact ⟨v', w', hrun, by simpa using r1, r2⟩
theorem wpList_grow8 {w : World} {ops : Array Oper} {rest : List Oper} {o : Oper} {a : Act} {Q : Exit → Act → World → Prop} (hgd : o.guard = none) (s x : Operand)
    (ho : o.op = .call { callee := .builtin .append, args := #[s, x], argTypes := #[48, 48] })
    (ao : Option Addr) (n cap : Nat) (l : List UInt8) (hs : a.eval s = .slice ao n cap) (hl : Bts w ao n cap l)
    (bo : Option Addr) (m c : Nat) (k : List UInt8) (hx : a.eval x = .slice bo m c) (hk : Bts w bo m c k) (hm : 0 < m) (hfull : cap < n + m) (hroom : n + m ≤ 140737488355328)
    (h : ∀ v' w', w'.ownsRow w.heap.size 5 1 v' (n + m) ((l ++ k).map bv) → w.grownBy w' none → wpList Tryz.prog ops Q rest (a.put o.dst v') w') : wpList Tryz.prog ops Q (o :: rest) a w := by
  refine wpList_plain hgd fun K hK => ?_
  obtain ⟨v', w', hrun, r1, r2⟩ := run_grow8 (w := w) o.type ao n cap l hl bo m c k hk hm hfull hroom
  unfold Oper.wp execOp
  simp only [ho, resolve, invoke, builtin, Sem.run_bind, Sem.run_pure, Result.andThen_ok, List.map_toArray, List.map_cons, List.map_nil, hs, hx, hrun]
  exact hK _ _ (h v' w' r1 r2)
theorem wpList_cpy8 {w : World} {ops : Array Oper} {rest : List Oper} {o : Oper} {a : Act} {Q : Exit → Act → World → Prop} (hgd : o.guard = none) (d s : Operand)
    (ho : o.op = .call { callee := .builtin .copy, args := #[d, s], argTypes := #[48, 48] })
    (g off dLen dCap : Nat) (hd : a.eval d = .slice (some ⟨g, off, none⟩) dLen dCap) (xs : List Value) (hg : Blk w g xs 5)
    (ao : Option Addr) (m c : Nat) (k : List UInt8) (hs : a.eval s = .slice ao m c) (hk : Bts w ao m c k) (hfit : m ≤ dLen) (hroom : off + m ≤ xs.length)
    (h : ∀ w', Blk w' g (splice xs off (k.map bv)) 5 → Kept [g] w w' → wpList Tryz.prog ops Q rest (a.put o.dst (.int .i64 m)) w') : wpList Tryz.prog ops Q (o :: rest) a w := by
  have hm := hk.hlen
  have hlt := hg.lt
  obtain ⟨i, hi, hz0, hz1, hz2⟩ := info_parts infoU8
  by_cases h0 : m = 0
  · refine wpList_copy_nothing hgd d s 48 48 ho 5 Tryz.underlying48 (by rw [hi]; simp [hz1]) _ _ _ _ _ _ hd hs (by rw [h0]; simp) ?_
    have hn : k = [] := List.eq_nil_of_length_eq_zero (by omega)
    have := h w (by rw [hn]; simpa [splice] using hg) (Kept.refl _ _)
    rw [h0] at this
    exact this
  · obtain ⟨b, o2, rfl⟩ := hk.some (by omega)
    refine wpList_copy_own hgd d s 48 48 ho 5 Tryz.underlying48 (by rw [hi]; simp [hz1]) g off dLen dCap _ m c hd hs xs.toArray 5 hg (k.map bv) (by rw [List.length_map, ← hm]; exact (Nat.min_eq_left hfit).symm) (hk.news _ rfl) (by simpa [← hm] using hroom) (bv_one k) ?_
    have hmm : (goInt ((k.map bv).length)) = .int .i64 (m : Int) := by rw [List.length_map, ← hm]; rfl
    rw [hmm]
    refine h _ ?_ ?_
    · show _ = _
      simpa [splice] using setRow_heap w g _ _ 5 _ hg
    · exact ⟨rfl, rfl, rfl, by simp [World.setRow], fun j hj hn => setRow_other w g j _ (by simpa using hn)⟩
theorem makeU8c (n c : Nat) (hnc : n ≤ c) (h : c ≤ 281474976710656) (w : World) : (Instr.makeSlice 48 (.int .i64 (n : Int)) (.int .i64 (c : Int))).run Tryz.prog w = .ok (.slice (some ⟨w.heap.size, 0, none⟩) n c) (w.alloc (.cells (madeCells #[.int .u8 0] c) 5)) := by
  obtain ⟨i0, hi, hz0, hz1, hz2⟩ := info_parts infoU8
  have hr := run_make (P := Tryz.prog) w 48 5 i0 (.int .u8 0) Tryz.underlying48 hi hz0 .i64 .i64 n c (by omega) (by omega) (by rw [hz2]; omega) (by omega)
  rw [hz1] at hr
  simp only [Int.toNat_natCast, Nat.mul_one] at hr
  exact hr
theorem makeU8 (n : Nat) (h : n ≤ 281474976710656) (w : World) : (Instr.makeSlice 48 (.int .i64 (n : Int)) (.int .i64 (n : Int))).run Tryz.prog w = .ok (.slice (some ⟨w.heap.size, 0, none⟩) n n) (w.alloc (.cells (madeCells #[.int .u8 0] n) 5)) :=
  makeU8c n n (Nat.le_refl _) h w
/-- A slice of the first n cells of a block that is the call's own. -/
theorem own_part {w : World} {base : Nat} {T : TypeId} {b : Nat} {xs ys : List Value} {n cap : Nat} (h : Blk w b ys T) (hb : base ≤ b) (hc : ys.length = cap) (hm : cap ≤ maxLen) (hn : n ≤ cap) (hx : ys.take n = xs) : w.ownsRow base T 1 (.slice (some ⟨b, 0, none⟩) n cap) n xs :=
  ⟨by rw [← hx, List.length_take]; omega, .inr ⟨b, cap, ys.toArray, rfl, hb, h, hn, hm, by simp [hc], by simpa using hx⟩⟩
end Go.Proofs.YtgdofgckjkmhjaaGreat
namespace Go.Proofs.YtgdofgckjkmhjaaGreat
open Go Go.RowKit
/-- A datagram, its data apart. -/
structure Dg where
  kind : Int
  sess : Nat
  seq : Nat
  path : Int
  tick : Nat
  a : Nat
  b : Nat
  k : Int
  m : Int
  index : Int
  data : List UInt8
def dgl (d : Dg) (p : Option Addr) (c : Nat) : List Value :=
  [.int .i64 d.kind, .int .u32 d.sess, .int .u32 d.seq, .int .i64 d.path, .int .u32 d.tick, .int .u32 d.a, .int .u32 d.b, .int .i64 d.k, .int .i64 d.m, .int .i64 d.index, .slice p d.data.length c]
def shardP (d : Dg) : Prop := 1 ≤ d.k ∧ d.k ≤ 16 ∧ 0 ≤ d.m ∧ d.m ≤ 16 ∧ 1 ≤ d.data.length ∧ d.data.length ≤ 1200 ∧ (d.kind = 2 → 0 ≤ d.index ∧ d.index < d.k) ∧ (¬ d.kind = 2 → d.k ≤ d.index ∧ d.index < d.k + d.m)
instance (d : Dg) : Decidable (shardP d) := by unfold shardP; infer_instance
def shardB (d : Dg) : Bool := decide (shardP d)
structure DgFits (d : Dg) : Prop where
  kind : -9223372036854775808 ≤ d.kind ∧ d.kind ≤ 9223372036854775807
  path : -9223372036854775808 ≤ d.path ∧ d.path ≤ 9223372036854775807
  sess : d.sess < 4294967296
  seq : d.seq < 4294967296
  tick : d.tick < 4294967296
  a : d.a < 4294967296
  b : d.b < 4294967296
set_option maxRecDepth 100000 in
set_option maxHeartbeats 1600000 in
theorem shard_any (d : Dg) (p : Option Addr) (c : Nat) (w : World) :
    Calls Tryz.prog 71 #[.agg (dgl d p c).toArray] w fun e w' => e = .returned (.bool (shardB d)) ∧ Kept [] w w' := by
  have hb := Blk.new w (dgl d p c) 50
  have c0 := hb.cell (show (dgl d p c)[0]? = some (.int .i64 d.kind) from rfl)
  have c7 := hb.cell (show (dgl d p c)[7]? = some (.int .i64 d.k) from rfl)
  have c8 := hb.cell (show (dgl d p c)[8]? = some (.int .i64 d.m) from rfl)
  have c9 := hb.cell (show (dgl d p c)[9]? = some (.int .i64 d.index) from rfl)
  have c10 := hb.cell (show (dgl d p c)[10]? = some (.slice p d.data.length c) from rfl)
  clear hb
  go_enter Tryz.func71, Tryz.ntmps71
  go_wp2
  all_goals
    try simp only [beq_iff_eq] at *
    try simp only [beq_eq_false_iff_ne] at *
    go_ret
    refine ⟨ret_bool ?_, (Kept.refl _ _).alloc _⟩
    unfold shardB
    first | exact (decide_eq_false (by unfold shardP; omega)).symm | exact decide_eq_decide.2 (by unfold shardP; omega)
def zeroB (a b c : Int) : Bool := decide (a = 0 ∧ b = 0 ∧ c = 0)
set_option maxHeartbeats 800000 in
theorem zero_any (a b c : Int) (g : Nat) (w : World) (hb : Blk w g [.int .i64 a, .int .i64 b, .int .i64 c] 3) :
    Calls Tryz.prog 72 #[.slice (some ⟨g, 0, none⟩) 3 3] w fun e w' => e = .returned (.bool (zeroB a b c)) ∧ w = w' := by
  have c0 := hb.cell (i := 0) rfl
  have c1 := hb.cell (i := 1) rfl
  have c2 := hb.cell (i := 2) rfl
  clear hb
  go_enter Tryz.func72, Tryz.ntmps72
  go_wp2
  go_rounds 4
  all_goals
    try simp only [bne_iff_ne] at *
    try simp only [bne_eq_false_iff_eq] at *
    go_ret
    refine ⟨ret_bool ?_, rfl⟩
    unfold zeroB
    first | exact (decide_eq_false (by omega)).symm | exact (decide_eq_true (by omega)).symm
def missP (l : List UInt8) : Prop := 1 ≤ l.length ∧ l.length ≤ 32 ∧ ∀ i, (h : i < l.length) → l[i].toNat < 32 ∧ (0 < i → l[i - 1].toNat < l[i].toNat)
instance (l : List UInt8) : Decidable (missP l) := by unfold missP; infer_instance
def missB (l : List UInt8) : Bool := decide (missP l)
set_option maxHeartbeats 800000 in
theorem missing_any (a : Option Addr) (n c : Nat) (l : List UInt8) (w : World) (hl : Bts w a n c l) :
    Calls Tryz.prog 73 #[.slice a n c] w fun e w' => e = .returned (.bool (missB l)) ∧ w = w' := by
  have hle := hl.hle
  have htop := hl.htop
  obtain rfl := hl.hlen
  unfold maxLen at htop
  by_cases h1 : 1 ≤ l.length ∧ l.length ≤ 32
  · obtain ⟨h1, h2⟩ := h1
    have g1 : decide ((l.length : Int) < 1) = false := by simp; omega
    have g2 : ¬ (32 : Int) < (l.length : Int) := by omega
    go_enter Tryz.func73, Tryz.ntmps73
    go_wp2
    go_loop [15] (fun i => ∃ k : Nat, k ≤ l.length ∧ i = .int .i64 k ∧ ∀ j, (h : j < l.length) → j < k → l[j].toNat < 32 ∧ (0 < j → l[j - 1].toNat < l[j].toNat)) (fun i => l.length - (intOf i).toNat)
    case atStart => exact ⟨0, Nat.zero_le _, rfl, fun j _ h => absurd h (Nat.not_lt_zero _)⟩
    case round =>
      obtain ⟨k, hk, rfl, hall⟩ := hrel
      have hall' := Lib.hid hall
      clear hall
      by_cases hlt : k < l.length
      · obtain ⟨b, off, rfl⟩ := hl.some (by omega)
        have hc := hl.at k hlt
        have hx := l[k].toNat_lt
        by_cases hk0 : k = 0
        · subst hk0
          rw [Nat.add_zero] at hc
          go_wp2
          · go_ret
            exact ⟨ret_bool (decide_eq_false (fun h => by have := (h.2.2 0 hlt).1; omega)).symm, rfl⟩
          · go_round
            case rel => exact ⟨1, by omega, rfl, fun j hj h => (by
              obtain rfl : j = 0 := by omega
              exact ⟨by omega, fun h => absurd h (Nat.lt_irrefl _)⟩)⟩
            case measure => simp [intOf] <;> omega
        · obtain ⟨q, rfl⟩ : ∃ q, k = q + 1 := ⟨k - 1, by omega⟩
          have hq : q < l.length := by omega
          have hcq := hl.at q hq
          have e1 : ((q + 1 : Nat) : Int) - 1 = (q : Int) := by omega
          go_wp2
          · go_ret
            exact ⟨ret_bool (decide_eq_false (fun h => by have := (h.2.2 (q + 1) hlt).1; omega)).symm, rfl⟩
          · go_ret
            exact ⟨ret_bool (decide_eq_false (fun h => by have := (h.2.2 (q + 1) hlt).2 (by omega); simp only [Nat.add_sub_cancel] at this; omega)).symm, rfl⟩
          · go_round
            case rel => exact ⟨q + 1 + 1, by omega, by go_num, fun j hj h => by
              by_cases hjq : j = q + 1
              · subst hjq; exact ⟨by omega, fun _ => by simp only [Nat.add_sub_cancel]; omega⟩
              · exact hall'.out j hj (by omega)⟩
            case measure => simp [intOf] <;> omega
      · obtain rfl : k = l.length := by omega
        go_wp2
        go_ret
        exact ⟨ret_bool (decide_eq_true ⟨h1, h2, fun i h => hall'.out i h h⟩).symm, rfl⟩
  · have hres := Lib.hid (show missB l = false from decide_eq_false (fun h => h1 ⟨h.1, h.2.1⟩))
    by_cases h2 : l.length < 1
    · have g1 : decide ((l.length : Int) < 1) = true := by simp; omega
      clear h1
      go_enter Tryz.func73, Tryz.ntmps73
      go_wp2
      all_goals
        go_ret
        exact ⟨by rw [hres.out]; rfl, rfl⟩
    · have g1 : decide ((l.length : Int) < 1) = false := by simp; omega
      have g2 : (32 : Int) < (l.length : Int) := by omega
      clear h1
      go_enter Tryz.func73, Tryz.ntmps73
      go_wp2
      go_ret
      exact ⟨by rw [hres.out]; rfl, rfl⟩
/-- Are the fields as the kind wants them? -/
def formP (d : Dg) : Prop :=
  if d.kind = 2 ∨ d.kind = 3 then shardP d
  else (d.k = 0 ∧ d.m = 0 ∧ d.index = 0) ∧ (if d.kind = 4 then d.b = 0 ∧ missP d.data else if d.kind = 5 then d.data.length = 4 else if d.kind = 7 then d.data.length = 0 ∧ d.a = 0 ∧ d.b = 0 else if d.kind = 8 then d.data.length = 0 ∧ d.b = 0 else d.data.length = 0)
instance (d : Dg) : Decidable (formP d) := by unfold formP; infer_instance
def formB (d : Dg) : Bool := decide (formP d)
set_option maxRecDepth 100000 in
set_option maxHeartbeats 3200000 in
theorem form_any (d : Dg) (p : Option Addr) (n c : Nat) (w : World) (hd : Bts w p n c d.data) :
    Calls Tryz.prog 43 #[.agg (dgl d p c).toArray] w fun e w' => e = .returned (.bool (formB d)) ∧ Kept [] w w' := by
  have hb := Blk.new w (dgl d p c) 50
  have c0 := hb.cell (show (dgl d p c)[0]? = some (.int .i64 d.kind) from rfl)
  have c5 := hb.cell (show (dgl d p c)[5]? = some (.int .u32 d.a) from rfl)
  have c6 := hb.cell (show (dgl d p c)[6]? = some (.int .u32 d.b) from rfl)
  have c7 := hb.cell (show (dgl d p c)[7]? = some (.int .i64 d.k) from rfl)
  have c8 := hb.cell (show (dgl d p c)[8]? = some (.int .i64 d.m) from rfl)
  have c9 := hb.cell (show (dgl d p c)[9]? = some (.int .i64 d.index) from rfl)
  have c10 := hb.cell (show (dgl d p c)[10]? = some (.slice p d.data.length c) from rfl)
  obtain rfl := hd.hlen
  by_cases h23 : d.kind = 2 ∨ d.kind = 3
  · have hf := Lib.hid (show formB d = shardB d by unfold formB shardB; exact decide_eq_decide.2 (by unfold formP; rw [if_pos h23]))
    have g : (d.kind == 2) = true ∨ ((d.kind == 2) = false ∧ (d.kind == 3) = true) := by simp; omega
    clear h23
    rcases g with g | ⟨g, g2⟩
    all_goals
      go_enter Tryz.func43, Tryz.ntmps43
      go_wp2_with (refine load_blk rfl 50 (.tmp 1) rfl w.heap.size rfl 50 (dgl d p c) _ hb Tryz.underlying50 rfl (by kernel_rfl) ?_)
      refine (shard_any d p c _).mono ?_
      rintro e w1 ⟨rfl, hk⟩
      go_wp2
      go_ret
      exact ⟨by rw [hf.out]; rfl, ((Kept.refl _ _).alloc _).trans0 hk⟩
  · have g : (d.kind == 2) = false := by simp; omega
    have g2 : (d.kind == 3) = false := by simp; omega
    have hb3 := fun w1 : World => Blk.new w1 [.int .i64 d.k, .int .i64 d.m, .int .i64 d.index] 3
    have hbs := hb3 (w.alloc (.cells (dgl d p c).toArray 50))
    rw [World.size_alloc] at hbs
    have d0 := hb.alloc (.cells #[.int .i64 d.k, .int .i64 d.m, .int .i64 d.index] 3)
    have e0 := d0.cell (show (dgl d p c)[0]? = some (.int .i64 d.kind) from rfl)
    have e5 := d0.cell (show (dgl d p c)[5]? = some (.int .u32 d.a) from rfl)
    have e6 := d0.cell (show (dgl d p c)[6]? = some (.int .u32 d.b) from rfl)
    have e10 := d0.cell (show (dgl d p c)[10]? = some (.slice p d.data.length c) from rfl)
    clear hb3
    by_cases hz0 : d.k = 0 ∧ d.m = 0 ∧ d.index = 0
    · have hz := Lib.hid (show zeroB d.k d.m d.index = true from decide_eq_true hz0)
      rcases (show d.kind = 4 ∨ d.kind = 5 ∨ d.kind = 7 ∨ d.kind = 8 ∨ (¬ d.kind = 4 ∧ ¬ d.kind = 5 ∧ ¬ d.kind = 7 ∧ ¬ d.kind = 8) by omega) with h | h | h | h | ⟨h4, h5, h7, h8⟩
      · have hf : Hid (formB d = decide (d.b = 0 ∧ missP d.data)) := decide_eq_decide.2 (by
          unfold formP
          rw [if_neg h23, if_pos h]
          simp [hz0])
        have k4 : (d.kind == 4) = true := by simp; omega
        clear h
        have hhz := Lib.hid hz0
        clear h23 hz0
        go_enter Tryz.func43, Tryz.ntmps43
        go_wp2_with fail
        refine (zero_any d.k d.m d.index (w.heap.size + 1) _ hbs).mono ?_
        rintro e w1 ⟨rfl, rfl⟩
        rw [hz.out]
        by_cases hb0 : d.b = 0
        · have b1 : ((d.b : Int) == 0) = true := by simp; omega
          have hm := Lib.hid (show decide (d.b = 0 ∧ missP d.data) = missB d.data from decide_eq_decide.2 (by simp [hb0]))
          clear hb0
          go_wp2_with fail
          refine (missing_any p _ c d.data _ (hd.kept (by repeat (first | exact Kept.refl _ _ | apply Kept.drew | apply Kept.alloc)))).mono ?_
          rintro e w1 ⟨rfl, rfl⟩
          go_wp2
          go_ret
          exact ⟨by rw [hf.out, hm.out]; rfl, by repeat (first | exact Kept.refl _ _ | apply Kept.drew | apply Kept.alloc)⟩
        · have b1 : ((d.b : Int) == 0) = false := by simp; omega
          have hm := Lib.hid (show decide (d.b = 0 ∧ missP d.data) = false from decide_eq_false (fun h => hb0 h.1))
          clear hb0
          go_wp2
          go_ret
          exact ⟨by rw [hf.out, hm.out]; rfl, by repeat (first | exact Kept.refl _ _ | apply Kept.drew | apply Kept.alloc)⟩
      · have hf : Hid (formB d = decide (d.data.length = 4)) := decide_eq_decide.2 (by
          unfold formP
          rw [if_neg h23, if_neg (by omega), if_pos h]
          simp [hz0])
        have k4 : (d.kind == 4) = false := by simp; omega
        have k5 : (d.kind == 5) = true := by simp; omega
        clear h
        have hhz := Lib.hid hz0
        clear h23 hz0
        go_enter Tryz.func43, Tryz.ntmps43
        go_wp2_with fail
        refine (zero_any d.k d.m d.index (w.heap.size + 1) _ hbs).mono ?_
        rintro e w1 ⟨rfl, rfl⟩
        rw [hz.out]
        go_wp2
        all_goals
          try simp only [beq_iff_eq] at *
          try simp only [beq_eq_false_iff_ne] at *
          go_ret
          refine ⟨ret_bool ?_, by repeat (first | exact Kept.refl _ _ | apply Kept.drew | apply Kept.alloc)⟩
          rw [hf.out]
          first | exact (decide_eq_false (by omega)).symm | exact (decide_eq_true (by omega)).symm | (rw [Bool.eq_iff_iff]; simp only [decide_eq_true_eq]; simp only [beq_iff_eq]; omega)
      · have hf : Hid (formB d = decide (d.data.length = 0 ∧ d.a = 0 ∧ d.b = 0)) := decide_eq_decide.2 (by
          unfold formP
          rw [if_neg h23, if_neg (by omega), if_neg (by omega), if_pos h]
          simp [hz0])
        have k4 : (d.kind == 4) = false := by simp; omega
        have k5 : (d.kind == 5) = false := by simp; omega
        have k7 : (d.kind == 7) = true := by simp; omega
        clear h
        have hhz := Lib.hid hz0
        clear h23 hz0
        go_enter Tryz.func43, Tryz.ntmps43
        go_wp2_with fail
        refine (zero_any d.k d.m d.index (w.heap.size + 1) _ hbs).mono ?_
        rintro e w1 ⟨rfl, rfl⟩
        rw [hz.out]
        go_wp2
        all_goals
          try simp only [beq_iff_eq] at *
          try simp only [beq_eq_false_iff_ne] at *
          go_ret
          refine ⟨ret_bool ?_, by repeat (first | exact Kept.refl _ _ | apply Kept.drew | apply Kept.alloc)⟩
          rw [hf.out]
          first | exact (decide_eq_false (by omega)).symm | exact (decide_eq_true (by omega)).symm | (rw [Bool.eq_iff_iff]; simp only [decide_eq_true_eq]; simp only [beq_iff_eq]; omega)
      · have hf : Hid (formB d = decide (d.data.length = 0 ∧ d.b = 0)) := decide_eq_decide.2 (by
          unfold formP
          rw [if_neg h23, if_neg (by omega), if_neg (by omega), if_neg (by omega), if_pos h]
          simp [hz0])
        have k4 : (d.kind == 4) = false := by simp; omega
        have k5 : (d.kind == 5) = false := by simp; omega
        have k7 : (d.kind == 7) = false := by simp; omega
        have k8 : (d.kind == 8) = true := by simp; omega
        clear h
        have hhz := Lib.hid hz0
        clear h23 hz0
        go_enter Tryz.func43, Tryz.ntmps43
        go_wp2_with fail
        refine (zero_any d.k d.m d.index (w.heap.size + 1) _ hbs).mono ?_
        rintro e w1 ⟨rfl, rfl⟩
        rw [hz.out]
        go_wp2
        all_goals
          try simp only [beq_iff_eq] at *
          try simp only [beq_eq_false_iff_ne] at *
          go_ret
          refine ⟨ret_bool ?_, by repeat (first | exact Kept.refl _ _ | apply Kept.drew | apply Kept.alloc)⟩
          rw [hf.out]
          first | exact (decide_eq_false (by omega)).symm | exact (decide_eq_true (by omega)).symm | (rw [Bool.eq_iff_iff]; simp only [decide_eq_true_eq]; simp only [beq_iff_eq]; omega)
      · have hf : Hid (formB d = decide (d.data.length = 0)) := decide_eq_decide.2 (by
          unfold formP
          rw [if_neg h23, if_neg h4, if_neg h5, if_neg h7, if_neg h8]
          simp [hz0])
        have k4 : (d.kind == 4) = false := by simp; omega
        have k5 : (d.kind == 5) = false := by simp; omega
        have k7 : (d.kind == 7) = false := by simp; omega
        have k8 : (d.kind == 8) = false := by simp; omega
        clear h4 h5 h7 h8
        have hhz := Lib.hid hz0
        clear h23 hz0
        go_enter Tryz.func43, Tryz.ntmps43
        go_wp2_with fail
        refine (zero_any d.k d.m d.index (w.heap.size + 1) _ hbs).mono ?_
        rintro e w1 ⟨rfl, rfl⟩
        rw [hz.out]
        go_wp2
        all_goals
          try simp only [beq_iff_eq] at *
          try simp only [beq_eq_false_iff_ne] at *
          go_ret
          refine ⟨ret_bool ?_, by repeat (first | exact Kept.refl _ _ | apply Kept.drew | apply Kept.alloc)⟩
          rw [hf.out]
          first | exact (decide_eq_false (by omega)).symm | exact (decide_eq_true (by omega)).symm | (rw [Bool.eq_iff_iff]; simp only [decide_eq_true_eq]; simp only [beq_iff_eq]; omega)
    · have hz := Lib.hid (show zeroB d.k d.m d.index = false from decide_eq_false hz0)
      have hf := Lib.hid (show formB d = false from decide_eq_false (by unfold formP; rw [if_neg h23]; exact fun h => hz0 h.1))
      clear h23 hz0
      go_enter Tryz.func43, Tryz.ntmps43
      go_wp2_with fail
      refine (zero_any d.k d.m d.index (w.heap.size + 1) _ hbs).mono ?_
      rintro e w1 ⟨rfl, rfl⟩
      rw [hz.out]
      go_wp2
      go_ret
      exact ⟨by rw [hf.out]; rfl, by repeat (first | exact Kept.refl _ _ | apply Kept.drew | apply Kept.alloc)⟩
def chk (d : Dg) : Int := if d.kind < 1 ∨ 8 < d.kind then 72 else if d.path < 0 ∨ 2 ≤ d.path ∨ formB d = false then 73 else 0
theorem load_dg {w : World} {ops : Array Oper} {rest : List Oper} {o : Oper} {a : Act} {Q : Exit → Act → World → Prop} (hgd : o.guard = none) (x : Operand) (ho : o.op = .load 50 x)
    (g : Nat) (hx : a.eval x = .pointer (some ⟨g, 0, none⟩)) (d : Dg) (p : Option Addr) (c : Nat) (hb : Blk w g (dgl d p c) 50) (h : wpList Tryz.prog ops Q rest (a.put o.dst (.agg (dgl d p c).toArray)) w) : wpList Tryz.prog ops Q (o :: rest) a w :=
  load_blk hgd 50 x ho g hx 50 _ _ hb Tryz.underlying50 rfl (by kernel_rfl) h
theorem exec_Dg (w : World) (ev : Operand → Value) (dst : Option Tmp) (x : Operand) (t2 : TypeId) (pos : String) (af : Array Edge) (g : Option (Nat × Bool)) (h : goodPtr w 11 (ev x) = true) :
    (execOp ev { dst := dst, op := .load 50 x, type := t2, pos := pos, after := af, guard := g }).run Tryz.prog w = .ok (.value (.agg (rowAt w (ev x)))) w :=
  exec_row 50 11 _ Tryz.underlying50 rfl (by kernel_rfl) ev _ x rfl h
attribute [local go_sem ↓] exec_Dg
attribute [local go_sem] goodPtr_at rowAt_at
set_option maxRecDepth 100000 in
set_option maxHeartbeats 3200000 in
theorem check_any (d : Dg) (p : Option Addr) (n c : Nat) (w : World) (hd : Bts w p n c d.data) :
    Calls Tryz.prog 15 #[.agg (dgl d p c).toArray] w fun e w' => e = .returned (.int .i64 (chk d)) ∧ Kept [] w w' := by
  obtain rfl := hd.hlen
  have hb := Blk.new w (dgl d p c) 50
  have c0 := hb.cell (show (dgl d p c)[0]? = some (.int .i64 d.kind) from rfl)
  have c3 := hb.cell (show (dgl d p c)[3]? = some (.int .i64 d.path) from rfl)
  have hrow := hb.row
  have hhas : hasRow (w.alloc (.cells (dgl d p c).toArray 50)) w.heap.size 11 = true := hb.has
  have fin : ∀ w', Kept [] (w.alloc (.cells (dgl d p c).toArray 50)) w' → Kept [] w w' := fun w' h => ((Kept.refl _ _).alloc _).trans0 h
  have FIN := Lib.hid fin
  clear fin
  by_cases h1 : d.kind < 1 ∨ 8 < d.kind
  · have hf := Lib.hid (show chk d = 72 by unfold chk; rw [if_pos h1])
    rcases h1 with h1 | h1
    · go_enter Tryz.func15, Tryz.ntmps15
      go_wp2
      go_ret
      exact ⟨by rw [hf.out]; rfl, FIN.out _ (Kept.refl _ _)⟩
    · have g : decide (d.kind < 1) = false := by simp; omega
      go_enter Tryz.func15, Tryz.ntmps15
      go_wp2
      go_ret
      exact ⟨by rw [hf.out]; rfl, FIN.out _ (Kept.refl _ _)⟩
  · have g : decide (d.kind < 1) = false := by simp; omega
    have g0 : ¬ 8 < d.kind := by omega
    by_cases h2 : d.path < 0
    · have hf := Lib.hid (show chk d = 73 by unfold chk; rw [if_neg h1, if_pos (by omega)])
      clear h1
      go_enter Tryz.func15, Tryz.ntmps15
      go_wp2
      go_ret
      exact ⟨by rw [hf.out]; rfl, FIN.out _ (Kept.refl _ _)⟩
    · have g2 : decide (d.path < 0) = false := by simp; omega
      by_cases h3 : 2 ≤ d.path
      · have hf := Lib.hid (show chk d = 73 by unfold chk; rw [if_neg h1, if_pos (by omega)])
        have g3 : decide (2 ≤ d.path) = true := by simp; omega
        clear h1 h2
        go_enter Tryz.func15, Tryz.ntmps15
        go_wp2
        go_ret
        exact ⟨by rw [hf.out]; rfl, FIN.out _ (Kept.refl _ _)⟩
      · have g3 : decide (2 ≤ d.path) = false := by simp; omega
        have hfo := form_any d p d.data.length c (w.alloc (.cells (dgl d p c).toArray 50)) (hd.kept ((Kept.refl _ _).alloc _))
        have hFO := Lib.hid hfo
        clear hfo
        cases hfb : formB d
        · have hf := Lib.hid (show chk d = 73 by unfold chk; rw [if_neg h1, if_pos (by simp [hfb])])
          have hfb' := Lib.hid hfb
          clear h1 h2 h3 hfb
          go_enter Tryz.func15, Tryz.ntmps15
          go_wp2_with fail
          refine hFO.out.mono ?_
          rintro e w1 ⟨rfl, hk⟩
          rw [hfb'.out]
          go_wp2
          go_ret
          exact ⟨by rw [hf.out]; rfl, FIN.out _ hk⟩
        · have hf := Lib.hid (show chk d = 0 by unfold chk; rw [if_neg h1, if_neg (by simp [hfb]; omega)])
          have hfb' := Lib.hid hfb
          clear h1 h2 h3 hfb
          go_enter Tryz.func15, Tryz.ntmps15
          go_wp2_with fail
          refine hFO.out.mono ?_
          rintro e w1 ⟨rfl, hk⟩
          rw [hfb'.out]
          go_wp2
          go_ret
          exact ⟨by rw [hf.out]; rfl, FIN.out _ hk⟩
end Go.Proofs.YtgdofgckjkmhjaaGreat
