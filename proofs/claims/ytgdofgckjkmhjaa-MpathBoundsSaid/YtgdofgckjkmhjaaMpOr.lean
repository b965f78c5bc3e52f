/- path.Order over ways that lie in one block. Printed by k/gen_mpor.py. -/
import Derived.Test.YtgdofgckjkmhjaaPathSd
import Derived.Test.YtgdofgckjkmhjaaPathSo
import Derived.Test.YtgdofgckjkmhjaaApg
import Derived.Deep.AppendLies
import Derived.Laws.OwnMore
import Derived.Deep.RegionLaw
import Derived.BigQuiet
import Derived.OwnWalk
namespace Go.Proofs.Ytgdofgckjkmhjaa
open Go Go.RowKit
attribute [local go_sem ↓] exec_m5 exec_m6
attribute [local go_sem] goodMid_at midAt_at
set_option maxRecDepth 100000 in
set_option maxHeartbeats 3200000 in
theorem aheadO_any (b o1 o2 : Nat) (xs : List Value) (T : TypeId) (p q : Pa) (w : World) (k : Int) (hp : StOk p.s k) (hq : StOk q.s k) (hb : Blk w b xs T) (hp1 : Part xs o1 (pac p)) (hp2 : Part xs o2 (pac q)) :
    Calls Try.prog 48 #[.pointer (some ⟨b, o1, none⟩), .pointer (some ⟨b, o2, none⟩)] w fun e w' => e = .returned (.bool (decide (keyI p < keyI q))) ∧ Kept [] w w' := by
  have HS := hx (state_any b o1 xs _ p w hb hp1)
  have HT := hx (state_any b o2 xs _ q w hb hp2)
  have HB := hx hb
  have HP1 := hx hp1
  have HP2 := hx hp2
  have HP := hx hp
  have HQ := hx hq
  by_cases h : stateI p.quiet = stateI q.quiet
  · have z := hx (key_eq p q h)
    rw [h] at HS
    generalize stateI q.quiet = y at *
    clear hb hp1 hp2 hp hq h
    go_enter Try.func48, Try.ntmps48
    go_wp2_with fail
    refine HS.out.mono ?_
    rintro e w1 ⟨rfl, rfl⟩
    go_wp2_with fail
    refine HT.out.mono ?_
    rintro e w1 ⟨rfl, rfl⟩
    go_upto_region 3 with fail
    clear HS HT
    have HG := hx (fun (w3 w4 : World) (h : ((midOf w3 b o1 5 = (stc p.s).toArray ∧ hasMid w3 b o1 5 = true) ∧ (midOf w3 b o2 5 = (stc q.s).toArray ∧ hasMid w3 b o2 5 = true)) ∧ (Hx (Blk w3 b xs T) ∧ Hx (Kept [] w w3))) (hk : Kept [] w3 w4) =>
      And.intro (And.intro (midS_of (hk.blk h.2.1.out (by simp)) (pac_s HP1.out)) (midS_of (hk.blk h.2.1.out (by simp)) (pac_s HP2.out))) (And.intro (hx (hk.blk h.2.1.out (by simp))) (hx (h.2.2.out.trans0 hk))))
    unfold midS at HG
    go_region_held3 (fun w3 => ((midOf w3 b o1 5 = (stc p.s).toArray ∧ hasMid w3 b o1 5 = true) ∧ (midOf w3 b o2 5 = (stc q.s).toArray ∧ hasMid w3 b o2 5 = true)) ∧ (Hx (Blk w3 b xs T) ∧ Hx (Kept [] w w3)))
      (first | exact hSS | exact ⟨⟨midS_of HB.out.drew (pac_s HP1.out), midS_of HB.out.drew (pac_s HP2.out)⟩, ⟨HB.out.drew⟩, ⟨(Kept.refl _ _).drew⟩⟩ | assumption)
      (first
       | (go_at_call 51; refine (sbetter_any p.s q.s _ k HP.out HQ.out).mono ?_; rintro e w' ⟨rfl, hk⟩; have hSS := HG.out _ _ ‹_› hk))
    all_goals
      go_wp2
      go_ret
      exact ⟨by rw [← z.out]; rfl, hSS.2.2.out⟩
  · have z := hx (key_ne p q k hp hq h)
    have hne : (stateI p.quiet != stateI q.quiet) = true := by simp [bne, h]
    generalize stateI q.quiet = y at *
    generalize stateI p.quiet = x at *
    clear hb hp1 hp2 hp hq h
    go_enter Try.func48, Try.ntmps48
    go_wp2_with fail
    refine HS.out.mono ?_
    rintro e w1 ⟨rfl, rfl⟩
    go_wp2_with fail
    refine HT.out.mono ?_
    rintro e w1 ⟨rfl, rfl⟩
    go_wp2_with fail
    refine HS.out.mono ?_
    rintro e w1 ⟨rfl, rfl⟩
    go_wp2_with fail
    refine HT.out.mono ?_
    rintro e w1 ⟨rfl, rfl⟩
    go_wp2
    go_ret
    exact ⟨by rw [← z.out]; rfl, Kept.refl _ _⟩
def keyF (ps : List Pa) : Nat → Int := fun i => keyI (ps.getD i pa0)
def ints (l : List Nat) : List Value := l.map (fun x : Nat => Value.int .i64 (x : Int))
theorem ints_len (l : List Nat) : (ints l).length = l.length := by simp [ints]
theorem ints_get (l : List Nat) (i : Nat) (h : i < l.length) : (ints l)[i]? = some (.int .i64 ((l.getD i 0 : Nat) : Int)) := by
  simp [ints, List.getD, h]
theorem ints_one (l : List Nat) : ∀ v ∈ ints l, v.oneCell' = true := by
  intro v hv
  simp only [ints, List.mem_map] at hv
  obtain ⟨x, _, rfl⟩ := hv
  rfl
theorem infoInt : (Try.prog.info? 3).map (fun i => (i.zero, i.size, i.bytes)) = some (some (.int .i64 0), 1, 8) := by kernel_rfl
structure Ways (w : World) (n : Nat) (b : Nat) (xs : List Value) (T : TypeId) (ps : List Pa) : Prop where
  blk : Blk w b xs T
  part : ∀ i, i < n → Part xs (i * 15) (pac (ps.getD i pa0))
  ok : ∀ i, i < n → StOk (ps.getD i pa0).s 1000000
theorem Ways.kept {w w2 : World} {n b : Nat} {xs : List Value} {T : TypeId} {ps : List Pa} (h : Ways w n b xs T ps) (hk : Kept [] w w2) : Ways w2 n b xs T ps :=
  ⟨hk.blk h.blk (by simp), h.part, h.ok⟩
/-- A list of pointers to the ways. -/
def Ptrs (w : World) (a : Option Addr) (n : Nat) (b : Nat) : Prop := ∀ i, i < n → ∃ g, a = some ⟨g, 0, none⟩ ∧ w.cell? ⟨g, i, none⟩ = some (.pointer (some ⟨b, i * 15, none⟩))
theorem Ptrs.kept {w w2 : World} {a : Option Addr} {n b : Nat} (h : Ptrs w a n b) (hk : Kept [] w w2) : Ptrs w2 a n b := fun i hi => by
  obtain ⟨g, h1, h2⟩ := h i hi
  exact ⟨g, h1, by rw [hk.cell (p := ⟨g, i, none⟩) (block_lt_of_cell h2) (by simp)]; exact h2⟩
theorem own_len {w : World} {base : Nat} {e : TypeId} {v : Value} {n : Nat} {l : List Nat} (h : w.ownsRow base e 1 v n (ints l)) : l.length = n := by
  have := h.1
  rw [ints_len] at this
  omega
theorem own_take {w : World} {base : Nat} {e : TypeId} {g n c : Nat} {l : List Nat} (h : w.ownsRow base e 1 (.slice (some ⟨g, 0, none⟩) n c) n (ints l)) (k : Nat) (hk : k ≤ n) : w.ownsRow base e 1 (.slice (some ⟨g, 0, none⟩) k c) k (ints (l.take k)) := by
  have hl := own_len h
  refine ⟨by simp [ints_len, hl]; omega, ?_⟩
  rcases h.2 with ⟨h', _⟩ | ⟨g', cap', cur, h', hb, hg, hnc, hcm, hcs, htake⟩
  · simp at h'
  · simp only [Value.slice.injEq, Option.some.injEq, Addr.mk.injEq, and_true, true_and] at h'
    obtain ⟨rfl, rfl⟩ := h'
    refine .inr ⟨_, _, cur, rfl, hb, hg, by omega, hcm, hcs, ?_⟩
    have e : ints (l.take k) = (ints l).take k := by simp [ints, List.map_take]
    rw [e, ← htake, List.take_take]
    congr 1
    omega
theorem own_kept {w w2 : World} {base : Nat} {e : TypeId} {v : Value} {n : Nat} {xs : List Value} (h : w.ownsRow base e 1 v n xs) (hk : Kept [] w w2) : w2.ownsRow base e 1 v n xs :=
  h.kept (row := none) ⟨hk.os, hk.tape, hk.output, hk.size, fun k hk' _ => hk.block k hk' (by simp)⟩ (by cases hv : v.ownBlock <;> simp)
theorem own_cell {w : World} {base : Nat} {e : TypeId} {g n c : Nat} {l : List Nat} (h : w.ownsRow base e 1 (.slice (some ⟨g, 0, none⟩) n c) n (ints l)) (k : Nat) (hk : k < n) : w.cell? ⟨g, k, none⟩ = some (.int .i64 ((l.getD k 0 : Nat) : Int)) := by
  rw [h.cellAt k (by omega)]
  exact ints_get l k (by have := own_len h; omega)
theorem own_cap {w : World} {base : Nat} {e : TypeId} {g n c : Nat} {xs : List Value} (h : w.ownsRow base e 1 (.slice (some ⟨g, 0, none⟩) n c) n xs) : n ≤ c ∧ c ≤ maxLen := by
  rcases h.2 with ⟨h', _⟩ | ⟨g', cap', cur, h', hb, hg, hnc, hcm, hcs, htake⟩
  · simp at h'
  · simp only [Value.slice.injEq, Option.some.injEq, Addr.mk.injEq, and_true, true_and] at h'
    obtain ⟨rfl, rfl⟩ := h'
    exact ⟨hnc, hcm⟩
theorem kept_cell' {w w' : World} {p : Addr} {v : Value} (hk : Kept [] w w') (h : w.cell? p = some v) : w'.cell? p = some v := by
  rw [hk.cell (block_lt_of_cell h) (by simp)]; exact h
theorem own_drop {w : World} {base : Nat} {e : TypeId} {g n c : Nat} {l : List Nat} (h : w.ownsRow base e 1 (.slice (some ⟨g, 0, none⟩) n c) n (ints l)) (k : Nat) : ∀ ad, some (⟨g, k, none⟩ : Addr) = some ad → ∀ j u, (ints (l.drop k))[j]? = some u → w.cell? (ad.add j) = some u := by
  intro ad ha j u hu
  simp only [Option.some.injEq] at ha
  subst ha
  rw [Addr.add_mid]
  have hl := own_len h
  have e1 : ints (l.drop k) = (ints l).drop k := by simp [ints, List.map_drop]
  rw [e1, List.getElem?_drop] at hu
  have hj : k + j < n := by have := (List.getElem?_eq_some_iff.1 hu).1; rw [ints_len] at this; omega
  rw [h.cellAt (k + j) (by omega)]
  exact hu
theorem own_news {w : World} {base : Nat} {e : TypeId} {g n c : Nat} {xs : List Value} (h : w.ownsRow base e 1 (.slice (some ⟨g, 0, none⟩) n c) n xs) : ∀ ad, some (⟨g, 0, none⟩ : Addr) = some ad → ∀ j u, xs[j]? = some u → w.cell? (ad.add j) = some u := by
  intro ad ha j u hu
  simp only [Option.some.injEq] at ha
  subst ha
  exact h.cells rfl j u hu
theorem one_app (i : Nat) (l : List Nat) : ∀ u ∈ [Value.int .i64 (i : Int)] ++ ints l, u.oneCell' = true := by
  intro u hu
  simp only [List.mem_append, List.mem_singleton] at hu
  rcases hu with rfl | hu
  · rfl
  · exact ints_one l u hu
theorem one_int (i : Nat) : ∀ u ∈ [Value.int .i64 (i : Int)], u.oneCell' = true := by
  intro u hu
  simp only [List.mem_singleton] at hu
  rw [hu]; rfl
theorem own_put {w : World} {base : Nat} {e : TypeId} {v : Value} {k i : Nat} {out : List Nat} (h : w.ownsRow base e 1 v (k + (1 + (i - k))) (ints (out.take k) ++ ([.int .i64 (i : Int)] ++ ints (out.drop k)))) (hk : k ≤ i) : w.ownsRow base e 1 v (i + 1) (ints (out.take k ++ i :: out.drop k)) := by
  have e1 : k + (1 + (i - k)) = i + 1 := by omega
  rw [e1] at h
  have e2 : ints (out.take k ++ i :: out.drop k) = ints (out.take k) ++ ([.int .i64 (i : Int)] ++ ints (out.drop k)) := by simp [ints]
  rw [e2]
  exact h
theorem own_put2 {w : World} {base : Nat} {e : TypeId} {v : Value} {k i : Nat} {out : List Nat} (h : w.ownsRow base e 1 v (k + 1) (ints (out.take k) ++ [.int .i64 (i : Int)])) (hk : k = i) (ho : out.length = i) : w.ownsRow base e 1 v (i + 1) (ints (out.take k ++ i :: out.drop k)) := by
  subst hk
  have e1 : out.drop k = [] := List.drop_eq_nil_of_le (by omega)
  rw [e1]
  have e2 : ints (out.take k ++ [k]) = ints (out.take k) ++ [.int .i64 (k : Int)] := by simp [ints]
  rw [e2]
  exact h
theorem drop_len (i k : Nat) (out : List Nat) (h : out.length = i) : (ints (out.drop k)).length = (i - k) * 1 := by rw [ints_len, List.length_drop, h]; omega
theorem app_len (i k : Nat) (out : List Nat) (h : out.length = i) : ([Value.int .i64 (i : Int)] ++ ints (out.drop k)).length = (1 + (i - k)) * 1 := by rw [List.length_append, drop_len i k out h]; simp
set_option maxRecDepth 100000 in
set_option maxHeartbeats 12000000 in
theorem order_any (a : Option Addr) (n cap bs : Nat) (xs : List Value) (T : TypeId) (ps : List Pa) (w : World) (hP : Ptrs w a n bs) (hW : Ways w n bs xs T ps) (hn : n ≤ 8) :
    Calls Try.prog 43 #[.slice a n cap] w fun e w' => ∃ u l, e = .returned u ∧ Srt (keyF ps) n l ∧ w'.ownsRow w.heap.size 3 1 u n (ints l) ∧ Kept [] w w' := by
  have HP := hx hP
  have HW := hx hW
  clear hP hW
  go_enter Try.func43, Try.ntmps43
  go_wp2
  go_loopw [8, 3] (fun iv ov wr => ∃ (i : Nat) (out : List Nat) (u : Value), i ≤ n ∧ iv = .int .i64 i ∧ u = ov ∧ (i = 0 → u = .slice none 0 0) ∧ Srt (keyF ps) i out ∧ wr.ownsRow w.heap.size 3 1 u i (ints out) ∧ Kept [] w wr) (fun iv _ _ => n - (intOf iv).toNat)
  case atStart => exact ⟨0, [], _, by omega, rfl, rfl, fun _ => rfl, Srt.nil _, World.ownsRow_nil _ _ _ _, Kept.refl _ _⟩
  case round =>
    obtain ⟨i, out, u, hi, rfl, rfl, hu, hs, ho, hk⟩ := hrel
    have HS := hx hs
    have HO := hx ho
    have HK := hx hk
    have HU := hx hu
    clear hs ho hk hu
    by_cases hlt : i < n
    · have hli : (i : Int) < (n : Int) := by omega
      rcases Nat.eq_zero_or_pos i with rfl | hpos
      · obtain rfl := HU.out rfl
        obtain rfl : out = [] := List.eq_nil_of_length_eq_zero (own_len HO.out)
        clear HU
        go_wp2
        go_loopw [5] (fun kv w5 => kv = .int .i64 0 ∧ Kept [] wr w5) (fun _ _ => 0)
        case atStart => exact ⟨rfl, Kept.refl _ _⟩
        case round =>
          obtain ⟨rfl, hk5⟩ := hrel
          have HKW0 := hx (HK.out.trans0 hk5)
          clear hk5 HK
          go_wp2_with fail
          go_quiet (fail)
          go_upto_region 8 with fail
          have HKW := hx (HKW0.out.drewN nq)
          clear HKW0
          generalize World.drewN _ _ = W at *
          have HB := hx (World.ownsRow_lit (base := w.heap.size) (e := 3) (size := 1) W.drew #[.int .i64 (0 : Int)] 1 HKW.out.size (by decide) rfl)
          have HKA := hx (HKW.out.drew.alloc (.cells #[.int .i64 (0 : Int)] 3))
          have HSZ := hx (show w.heap.size ≤ (W.drew.alloc (.cells #[.int .i64 (0 : Int)] 3)).heap.size by have h := HKA.out.size; exact h)
          have HR := hx (HS.out.put (Plc.top (keyF ps) 0 []) (.inl rfl))
          clear HKW HO
          go_region_law (first
            | (refine step_app rfl (.tmp 34) (.tmp 40) 24 rfl w.heap.size 3 (.int .i64 0) 1 8 infoInt Try.underlying24 rfl (by omega) (.slice none 0 0) 0 [] rfl (World.ownsRow_nil _ _ _ _) (some ⟨W.heap.size, 0, none⟩) 1 1 [.int .i64 (0 : Int)] rfl rfl (by simp) (by omega) (own_news HB.out) (one_int 0) (by unfold maxLen; omega) (by omega) HSZ.out ?_; intro v5 w5 ho5 hg5; have HO5' := hx ho5; have HK5' := hx (HKA.out.grown hg5 (fun q hq => by simp [Value.ownBlock] at hq)); clear ho5 hg5))
          all_goals
            go_wp2
            go_roundw
            case rel => exact ⟨1, [0], v5, by omega, rfl, rfl, fun h => absurd h (by omega), HR.out, HO5'.out, HK5'.out⟩
            case measure => simp [intOf] <;> omega
      · obtain ⟨g, c, rfl, hg, _⟩ := HO.out.form hpos
        clear HU
        go_wp2
        go_loopw [5] (fun kv w5 => ∃ k : Nat, k ≤ i ∧ kv = .int .i64 k ∧ Plc (keyF ps) i out k ∧ Kept [] wr w5) (fun kv _ => (intOf kv).toNat)
        case atStart => exact ⟨i, by omega, rfl, by have h := Plc.top (keyF ps) i out; rw [own_len HO.out] at h; exact h, Kept.refl _ _⟩
        case round =>
          obtain ⟨k, hki, rfl, hpl, hk5⟩ := hrel
          have HPL := hx hpl
          have HK5 := hx hk5
          have HO5 := hx (own_kept HO.out hk5)
          clear hpl hk5
          rcases Nat.eq_zero_or_pos k with rfl | hkp
          · go_wp2_with fail
            go_quiet (fail)
            go_upto_region 8 with fail
            have HKW := hx ((HK.out.trans0 HK5.out).drewN nq)
            have HOW := hx (own_kept HO5.out ((Kept.refl [] _).drewN nq))
            have HPK := hx (show 0 = 0 ∨ keyF ps (out.getD (0 - 1) 0) ≤ keyF ps i from .inl rfl)
            generalize World.drewN _ _ = W at *
            have HR := hx (HS.out.put HPL.out HPK.out)
            have HCP := hx (own_cap HOW.out)
            have HB := hx (World.ownsRow_lit (base := w.heap.size) (e := 3) (size := 1) W.drew #[.int .i64 (i : Int)] 1 HKW.out.size (by decide) rfl)
            have HOA := hx (HOW.out.drew.alloc (.cells #[.int .i64 (i : Int)] 3))
            have HKA := hx (HKW.out.drew.alloc (.cells #[.int .i64 (i : Int)] 3))
            have HGN := hx (HOW.out.lt g rfl)
            have hkc : ((0 : Nat) : Int) ≤ (c : Int) := by have h := HCP.out; omega
            have hic : ((i : Nat) : Int) ≤ (c : Int) := by have h := HCP.out; omega
            have hki' : ((0 : Nat) : Int) ≤ (i : Int) := by omega
            have hlen := own_len HOW.out
            have H1 := hx (drop_len i 0 out hlen)
            have H2 := hx (app_len i 0 out hlen)
            have HSZ := hx (show w.heap.size ≤ (W.drew.alloc (.cells #[.int .i64 (i : Int)] 3)).heap.size by have h := HKA.out.size; exact h)
            have hi8 : i ≤ 8 := by omega
            have HNE := hx (show g ≠ W.heap.size by have h := HGN.out.2; omega)
            have HWS := hx (show w.heap.size ≤ W.heap.size from HKW.out.size)
            clear HK HO HK5 HO5 HKW
            go_region_law (first
              | (refine step_app rfl (.tmp 36) (.tmp 39) 24 rfl w.heap.size 3 (.int .i64 0) 1 8 infoInt Try.underlying24 rfl (by omega) (.slice (some ⟨W.heap.size, 0, none⟩) 1 1) 1 [.int .i64 (i : Int)] rfl HB.out (some ⟨g, 0, none⟩) (i - 0) (c - 0) (ints (out.drop 0)) rfl H1.out (by simp) (by omega) (own_drop HOA.out 0) (ints_one _) (by unfold maxLen; omega) (by omega) HSZ.out ?_; intro v4 w4 ho4 hg4; obtain ⟨g4, c4, rfl, hg4a, hg4b⟩ := ho4.form (by omega); have HC4 := hx (own_cap ho4); have HO4 := hx ho4; have HT4 := hx ((own_take HOA.out 0 (by omega)).kept hg4 (.inr (by simp [Value.ownBlock]; exact HNE.out))); have HK4 := hx (HKA.out.grown hg4 (fun q hq => .inr (by simp [Value.ownBlock] at hq; subst hq; exact HWS.out))); clear ho4 hg4)
              | (refine step_app rfl (.tmp 34) (.tmp 40) 24 rfl w.heap.size 3 (.int .i64 0) 1 8 infoInt Try.underlying24 rfl (by omega) (.slice (some ⟨g, 0, none⟩) 0 c) 0 (ints (out.take 0)) rfl HT4.out (some ⟨g4, 0, none⟩) (1 + (i - 0)) c4 ([.int .i64 (i : Int)] ++ ints (out.drop 0)) rfl H2.out (by simp) HC4.out.1 (own_news HO4.out) (one_app i _) (by unfold maxLen; omega) (by omega) HK4.out.size ?_; intro v5 w5 ho5 hg5; have HO5' := hx (own_put ho5 hki); have HK5' := hx (HK4.out.grown hg5 (fun q hq => .inr (by simp [Value.ownBlock] at hq; subst hq; exact HGN.out.1))); clear ho5 hg5))
            all_goals
              go_wp2
              go_roundw
              case rel => exact ⟨i + 1, _, v5, by omega, by go_num, rfl, fun h => absurd h (by omega), HR.out, HO5'.out, HK5'.out⟩
              case measure => simp [intOf] <;> omega
          · obtain ⟨j, rfl⟩ : ∃ j, k = j + 1 := ⟨k - 1, by omega⟩
            obtain ⟨ga, rfl, hca⟩ := (HP.out.kept (HK.out.trans0 HK5.out)) i hlt
            have hlen := own_len HO.out
            have hxl : out.getD j 0 < i := (HS.out.mem _).1 (by rw [List.getD, List.getElem?_eq_getElem (show j < out.length by omega)]; exact List.getElem_mem _)
            obtain ⟨gb, hgb, hcb⟩ := (HP.out.kept (HK.out.trans0 HK5.out)) (out.getD j 0) (by omega)
            simp only [Option.some.injEq, Addr.mk.injEq, and_true] at hgb
            obtain rfl := hgb
            have hcc := own_cell HO5.out j (by omega)
            have HWW := hx (HW.out.kept (HK.out.trans0 HK5.out))
            have HPD := hx (fun h => Plc.down (K := keyF ps) (n := i) (l := out) (k := j) HPL.out h)
            have HPS := hx (show ¬ keyF ps i < keyF ps (out.getD j 0) → (j + 1 = 0 ∨ keyF ps (out.getD (j + 1 - 1) 0) ≤ keyF ps i) by intro h; right; rw [Nat.add_sub_cancel]; omega)
            have HA := hx (fun (w : World) (h : Ways w n bs xs T ps) => show Calls Try.prog 48 #[.pointer (some ⟨bs, i * 15, none⟩), .pointer (some ⟨bs, (out.getD j 0) * 15, none⟩)] w fun e w' => e = .returned (.bool (decide (keyF ps i < keyF ps (out.getD j 0)))) ∧ Kept [] w w' from aheadO_any bs (i * 15) ((out.getD j 0) * 15) xs T (ps.getD i pa0) (ps.getD (out.getD j 0) pa0) w 1000000 (h.ok i hlt) (h.ok _ (by omega)) h.blk (h.part i hlt) (h.part _ (by omega)))
            have hxn : ((out.getD j 0 : Nat) : Int) < (n : Int) := by omega
            have hji : (j : Int) < (i : Int) := by omega
            have jw : IntKind.i64.wrap ((j : Int) + 1 - 1) = (j : Int) := by rw [IntKind.wrap_i64]; omega
            have jw2 : IntKind.i64.wrap (j : Int) = (j : Int) := by rw [IntKind.wrap_i64]; omega
            have jk : ((j + 1 : Nat) : Int) = (j : Int) + 1 := by omega
            have jp : decide ((0 : Int) < (j : Int) + 1) = true := by simp <;> omega
            generalize out.getD j 0 = x at *
            have HC := hx (And.intro hca (And.intro hcb hcc))
            clear hca hcb hcc
            have HA2 := hx (fun (w3 : World) (h : (w3.cell? ⟨ga, i, none⟩ = some (.pointer (some ⟨bs, i * 15, none⟩)) ∧ w3.cell? ⟨ga, x, none⟩ = some (.pointer (some ⟨bs, x * 15, none⟩)) ∧ w3.cell? ⟨g, j, none⟩ = some (.int .i64 (x : Int))) ∧ (Hx (Ways w3 n bs xs T ps) ∧ Hx (Kept [] wr w3))) => HA.out w3 h.2.1.out)
            clear HA
            have HG := hx (fun (w3 w4 : World) (h : (w3.cell? ⟨ga, i, none⟩ = some (.pointer (some ⟨bs, i * 15, none⟩)) ∧ w3.cell? ⟨ga, x, none⟩ = some (.pointer (some ⟨bs, x * 15, none⟩)) ∧ w3.cell? ⟨g, j, none⟩ = some (.int .i64 (x : Int))) ∧ (Hx (Ways w3 n bs xs T ps) ∧ Hx (Kept [] wr w3))) (hk : Kept [] w3 w4) =>
              And.intro (And.intro (kept_cell' hk h.1.1) (And.intro (kept_cell' hk h.1.2.1) (kept_cell' hk h.1.2.2))) (And.intro (hx (h.2.1.out.kept hk)) (hx (h.2.2.out.trans0 hk))))
            cases hD : decide (keyF ps i < keyF ps x)
            · rw [hD] at HA2
              go_wp2_with fail
              clear jk
              go_region_held3 (fun w3 => (w3.cell? ⟨ga, i, none⟩ = some (.pointer (some ⟨bs, i * 15, none⟩)) ∧ w3.cell? ⟨ga, x, none⟩ = some (.pointer (some ⟨bs, x * 15, none⟩)) ∧ w3.cell? ⟨g, j, none⟩ = some (.int .i64 (x : Int))) ∧ (Hx (Ways w3 n bs xs T ps) ∧ Hx (Kept [] wr w3)))
                (first | exact hSS | exact ⟨HC.out, hx (HWW.out.kept (Kept.refl _ _).drew), hx (Kept.refl _ _).drew⟩ | assumption)
                (first | (go_at_call 48; refine (HA2.out _ (by assumption)).mono ?_; rintro e w' ⟨rfl, hk⟩; have hSS := HG.out _ _ ‹_› hk))
              go_upto_region 8 with fail
              have HKW := hx ((HK.out.trans0 HK5.out).trans0 hSS.2.2.out)
              have HOW := hx (own_kept HO5.out hSS.2.2.out)
              have HPK := hx (HPS.out (by have h := of_decide_eq_false hD; omega))
              clear hSS jw jw2 jp HC HPD HPS HWW HG HA2 hD
              have hki : j + 1 ≤ i := by omega
              have hkc2 : (j : Int) + 1 ≤ (c : Int) := by have h := own_cap HOW.out; omega
              have hki2 : (j : Int) + 1 ≤ (i : Int) := by omega
              have hk02 : (0 : Int) ≤ (j : Int) + 1 := by omega
              by_cases hcj : c = j + 1
              · have hij : i ≤ c := (own_cap HOW.out).1
                subst hcj
                have HR := hx (HS.out.put HPL.out HPK.out)
                have HCP := hx (own_cap HOW.out)
                have HB := hx (World.ownsRow_lit (base := w.heap.size) (e := 3) (size := 1) w'.drew #[.int .i64 (i : Int)] 1 HKW.out.size (by decide) rfl)
                have HOA := hx (HOW.out.drew.alloc (.cells #[.int .i64 (i : Int)] 3))
                have HKA := hx (HKW.out.drew.alloc (.cells #[.int .i64 (i : Int)] 3))
                have HGN := hx (HOW.out.lt g rfl)
                have hkc : (((j + 1) : Nat) : Int) ≤ (j : Int) + 1 := by have h := HCP.out; omega
                have hic : ((i : Nat) : Int) ≤ (j : Int) + 1 := by have h := HCP.out; omega
                have hki' : (((j + 1) : Nat) : Int) ≤ (i : Int) := by omega
                have hlen := own_len HOW.out
                have H1 := hx (drop_len i (j + 1) out hlen)
                have H2 := hx (app_len i (j + 1) out hlen)
                have HSZ := hx (show w.heap.size ≤ (w'.drew.alloc (.cells #[.int .i64 (i : Int)] 3)).heap.size by have h := HKA.out.size; exact h)
                have hi8 : i ≤ 8 := by omega
                have HNE := hx (show g ≠ w'.heap.size by have h := HGN.out.2; omega)
                have HWS := hx (show w.heap.size ≤ w'.heap.size from HKW.out.size)
                clear HK HO HK5 HO5 HKW
                have HT4 := hx (own_take HOA.out (j + 1) (by omega))
                go_region_law (first
                  | (refine step_app rfl (.tmp 34) (.tmp 40) 24 rfl w.heap.size 3 (.int .i64 0) 1 8 infoInt Try.underlying24 rfl (by omega) (.slice (some ⟨g, 0, none⟩) (j + 1) (j + 1)) (j + 1) (ints (out.take (j + 1))) rfl HT4.out (some ⟨w'.heap.size, 0, none⟩) 1 1 [.int .i64 (i : Int)] rfl rfl (by simp) (by omega) (own_news HB.out) (one_int i) (by unfold maxLen; omega) (by omega) HSZ.out ?_; intro v5 w5 ho5 hg5; have HO5' := hx (own_put2 ho5 (by omega) hlen); have HK5' := hx (HKA.out.grown hg5 (fun q hq => .inr (by simp [Value.ownBlock] at hq; subst hq; exact HGN.out.1))); clear ho5 hg5))
                all_goals
                  go_wp2
                  go_roundw
                  case rel => exact ⟨i + 1, _, v5, by omega, by go_num, rfl, fun h => absurd h (by omega), HR.out, HO5'.out, HK5'.out⟩
                  case measure => simp [intOf] <;> omega
              · have HR := hx (HS.out.put HPL.out HPK.out)
                have HCP := hx (own_cap HOW.out)
                have HB := hx (World.ownsRow_lit (base := w.heap.size) (e := 3) (size := 1) w'.drew #[.int .i64 (i : Int)] 1 HKW.out.size (by decide) rfl)
                have HOA := hx (HOW.out.drew.alloc (.cells #[.int .i64 (i : Int)] 3))
                have HKA := hx (HKW.out.drew.alloc (.cells #[.int .i64 (i : Int)] 3))
                have HGN := hx (HOW.out.lt g rfl)
                have hkc : (((j + 1) : Nat) : Int) ≤ (c : Int) := by have h := HCP.out; omega
                have hic : ((i : Nat) : Int) ≤ (c : Int) := by have h := HCP.out; omega
                have hki' : (((j + 1) : Nat) : Int) ≤ (i : Int) := by omega
                have hlen := own_len HOW.out
                have H1 := hx (drop_len i (j + 1) out hlen)
                have H2 := hx (app_len i (j + 1) out hlen)
                have HSZ := hx (show w.heap.size ≤ (w'.drew.alloc (.cells #[.int .i64 (i : Int)] 3)).heap.size by have h := HKA.out.size; exact h)
                have hi8 : i ≤ 8 := by omega
                have HNE := hx (show g ≠ w'.heap.size by have h := HGN.out.2; omega)
                have HWS := hx (show w.heap.size ≤ w'.heap.size from HKW.out.size)
                clear HK HO HK5 HO5 HKW
                go_region_law (first
                  | (refine step_app rfl (.tmp 36) (.tmp 39) 24 rfl w.heap.size 3 (.int .i64 0) 1 8 infoInt Try.underlying24 rfl (by omega) (.slice (some ⟨w'.heap.size, 0, none⟩) 1 1) 1 [.int .i64 (i : Int)] rfl HB.out (some ⟨g, (j + 1), none⟩) (i - (j + 1)) (c - (j + 1)) (ints (out.drop (j + 1))) rfl H1.out (by simp) (by omega) (own_drop HOA.out (j + 1)) (ints_one _) (by unfold maxLen; omega) (by omega) HSZ.out ?_; intro v4 w4 ho4 hg4; obtain ⟨g4, c4, rfl, hg4a, hg4b⟩ := ho4.form (by omega); have HC4 := hx (own_cap ho4); have HO4 := hx ho4; have HT4 := hx ((own_take HOA.out (j + 1) (by omega)).kept hg4 (.inr (by simp [Value.ownBlock]; exact HNE.out))); have HK4 := hx (HKA.out.grown hg4 (fun q hq => .inr (by simp [Value.ownBlock] at hq; subst hq; exact HWS.out))); clear ho4 hg4)
                  | (refine step_app rfl (.tmp 34) (.tmp 40) 24 rfl w.heap.size 3 (.int .i64 0) 1 8 infoInt Try.underlying24 rfl (by omega) (.slice (some ⟨g, 0, none⟩) (j + 1) c) (j + 1) (ints (out.take (j + 1))) rfl HT4.out (some ⟨g4, 0, none⟩) (1 + (i - (j + 1))) c4 ([.int .i64 (i : Int)] ++ ints (out.drop (j + 1))) rfl H2.out (by simp) HC4.out.1 (own_news HO4.out) (one_app i _) (by unfold maxLen; omega) (by omega) HK4.out.size ?_; intro v5 w5 ho5 hg5; have HO5' := hx (own_put ho5 hki); have HK5' := hx (HK4.out.grown hg5 (fun q hq => .inr (by simp [Value.ownBlock] at hq; subst hq; exact HGN.out.1))); clear ho5 hg5))
                all_goals
                  go_wp2
                  go_roundw
                  case rel => exact ⟨i + 1, _, v5, by omega, by go_num, rfl, fun h => absurd h (by omega), HR.out, HO5'.out, HK5'.out⟩
                  case measure => simp [intOf] <;> omega
            · rw [hD] at HA2
              go_wp2_with fail
              clear jk
              go_region_held3 (fun w3 => (w3.cell? ⟨ga, i, none⟩ = some (.pointer (some ⟨bs, i * 15, none⟩)) ∧ w3.cell? ⟨ga, x, none⟩ = some (.pointer (some ⟨bs, x * 15, none⟩)) ∧ w3.cell? ⟨g, j, none⟩ = some (.int .i64 (x : Int))) ∧ (Hx (Ways w3 n bs xs T ps) ∧ Hx (Kept [] wr w3)))
                (first | exact hSS | exact ⟨HC.out, hx (HWW.out.kept (Kept.refl _ _).drew), hx (Kept.refl _ _).drew⟩ | assumption)
                (first | (go_at_call 48; refine (HA2.out _ (by assumption)).mono ?_; rintro e w' ⟨rfl, hk⟩; have hSS := HG.out _ _ ‹_› hk))
              have HP7 := hx (HPD.out (of_decide_eq_true hD))
              have HK7 := hx (HK5.out.trans0 hSS.2.2.out)
              clear hSS jw2 jp HC HPD HPS HWW HG HA2 hD
              go_wp2
              go_roundw
              case rel => exact ⟨j, by omega, by go_num, HP7.out, HK7.out⟩
              case measure => simp [intOf] <;> omega
    · obtain rfl : i = n := by omega
      go_wp2
      go_ret
      exact ⟨_, out, rfl, HS.out, HO.out, HK.out⟩
end Go.Proofs.Ytgdofgckjkmhjaa
