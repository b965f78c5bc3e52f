import Derived.Test.YthkjllphefnphaaPathOr
import Derived.Deep.Onto
namespace Go.Proofs.Ythkjllphefnphaa
open Go Go.RowKit
attribute [local go_sem ↓] exec_m5 exec_m6 exec_r5 exec_r69 exec_r78
attribute [local go_sem] goodMid_at midAt_at
/-- A list of the reference's ways. -/
def Rws (w : World) (a : Option Addr) (n : Nat) (ps : List Pa) : Prop := ∀ i, i < n → ∃ g xs, a = some ⟨g, 0, none⟩ ∧ Blk w g xs 37 ∧ Part xs (i * 78) (rpc (ps.getD i pa0))
theorem Rws.kept {w w2 : World} {a : Option Addr} {n : Nat} {ps : List Pa} (h : Rws w a n ps) (hk : Kept [] w w2) : Rws w2 a n ps := fun i hi => by
  obtain ⟨g, xs, h1, h2, h3⟩ := h i hi
  exact ⟨g, xs, h1, hk.blk h2 (by simp), h3⟩
def usd (n : Nat) (out : List Nat) : List Value := tab n fun i => .bool (decide (i ∈ out))
theorem usd_nil (n : Nat) : usd n [] = List.replicate n (.bool false) := by
  apply List.ext_getElem?
  intro i
  unfold usd
  by_cases h : i < n
  · rw [tab_get h]; simp [h]
  · rw [tab_out (by omega)]; simp [h]
theorem usd_set (n : Nat) (out : List Nat) (c : Nat) (hc : c < n) : (usd n out).set c (.bool true) = usd n (out ++ [c]) := by
  unfold usd
  exact tab_set hc (by simp) (fun i hi hne => by simp [hne])
theorem mid78 {w : World} {g : Nat} {xs : List Value} {T : TypeId} {o : Nat} {p : Pa} (h : Blk w g xs T) (hp : Part xs o (rpc p)) : midOf w g o 78 = (rpc p).toArray ∧ hasMid w g o 78 = true := by
  have a := h.mid hp
  have b := h.hasMid hp
  rw [rpc_len] at a b
  exact ⟨a, b⟩
theorem infoBool : (Try.prog.info? 4).map (fun i => (i.zero, i.size, i.bytes)) = some (some (.bool false), 1, 1) := by kernel_rfl
theorem makeB (n : Nat) (h : n ≤ 8) (w : World) : (Instr.makeSlice 65 (.int .i64 (n : Int)) (.int .i64 (n : Int))).run Try.prog w = .ok (.slice (some ⟨w.heap.size, 0, none⟩) n n) (w.alloc (.cells (madeCells #[.bool false] n) 4)) := by
  obtain ⟨i0, hi, hz0, hz1, hz2⟩ := info_parts infoBool
  have hr := run_make (P := Try.prog) w 65 4 i0 (.bool false) Try.underlying65 hi hz0 .i64 .i64 n n (by omega) (by omega) (by rw [hz2]; omega) (by omega)
  rw [hz1] at hr
  simp only [Int.toNat_natCast, Nat.mul_one] at hr
  exact hr
theorem blk_news {w : World} {g : Nat} {xs : List Value} {T : TypeId} (h : Blk w g xs T) : ∀ ad, some (⟨g, 0, none⟩ : Addr) = some ad → ∀ j u, xs[j]? = some u → w.cell? (ad.add j) = some u := by
  intro ad ha j u hu
  simp only [Option.some.injEq] at ha
  subst ha
  rw [Addr.add_mid]
  simp only [Nat.zero_add]
  exact h.cell hu
theorem grown_blk {w w2 : World} {row : Option Nat} {b : Nat} {xs : List Value} {T : TypeId} (hg : w.grownBy w2 row) (h : Blk w b xs T) (hn : some b ≠ row) : Blk w2 b xs T := by
  have hlt := h.lt
  unfold Blk at *
  rw [hg.block b hlt hn]
  exact h
theorem Kept.toGrown {g : Nat} {w w' : World} (h : Kept [g] w w') : w.grownBy w' (some g) := ⟨h.os, h.tape, h.output, h.size, fun k hk hn => h.block k hk (fun hc => by simp at hc; exact hn (by rw [hc]))⟩
theorem usd_get (n : Nat) (out : List Nat) (i : Nat) (hi : i < n) : (usd n out)[i]? = some (.bool (decide (i ∈ out))) := tab_get hi
theorem ints_push (l : List Nat) (c : Nat) : ints (l ++ [c]) = ints l ++ [.int .i64 (c : Int)] := by simp [ints]
set_option maxRecDepth 100000 in
set_option maxHeartbeats 12000000 in
theorem rorder_any (a : Option Addr) (n cap : Nat) (ps : List Pa) (w : World) (hP : Rws w a n ps) (hO : ∀ i, i < n → StOk (ps.getD i pa0).s 1000000) (hn : n ≤ 8) :
    Calls Try.prog 12 #[.slice a n cap] w fun e w' => ∃ u l, e = .returned u ∧ Srt (keyF ps) n l ∧ w'.ownsRow w.heap.size 3 1 u n (ints l) ∧ Kept [] w w' := by
  have HP := hx hP
  have HO := hx hO
  have hmk := makeB n hn w
  have HM0 := hx (show Blk (w.alloc (.cells (madeCells #[.bool false] n) 4)) w.heap.size (usd n []) 4 by
    have h := Blk.new' w (madeCells #[.bool false] n) 4
    rw [toList_madeCells_one, ← usd_nil] at h
    exact h)
  have HK0 := hx ((Kept.refl [] w).alloc (.cells (madeCells #[.bool false] n) 4))
  clear hP hO
  go_enter Try.func12, Try.ntmps12
  go_wp2
  clear hmk
  generalize w.alloc (.cells (madeCells #[.bool false] n) 4) = W0 at *
  obtain ⟨m, hm⟩ : ∃ m, m = w.heap.size := ⟨_, rfl⟩
  have HMW := hx hm
  rw [← hm] at HM0
  rw [← hm]
  clear hm
  go_loopw [5, 3] (fun iv ov wr => ∃ (k : Nat) (out : List Nat) (u : Value), k ≤ n ∧ iv = .int .i64 k ∧ u = ov ∧ out.length = k ∧ Sel (keyF ps) n out ∧ wr.ownsRow (m + 1) 3 1 u k (ints out) ∧ Blk wr m (usd n out) 4 ∧ Kept [] w wr) (fun iv _ _ => n - (intOf iv).toNat)
  case atStart => exact ⟨0, [], _, by omega, rfl, rfl, rfl, Sel.nil _ _, World.ownsRow_nil _ _ _ _, HM0.out, HK0.out⟩
  case round =>
    clear HM0 HK0
    obtain ⟨k, out, u, hk, rfl, rfl, hlen, hs, ho, hm, hkr⟩ := hrel
    have HS := hx hs
    have HU := hx ho
    have HM := hx hm
    have HK := hx hkr
    have HL := hx hlen
    clear hs ho hm hkr hlen
    by_cases hlt : k < n
    · have hkn : (k : Int) < (n : Int) := by omega
      go_wp2
      go_loopw [6, 7] (fun bv iv w5 => ∃ (i : Nat) (b : Int), i ≤ n ∧ iv = .int .i64 i ∧ bv = .int .i64 b ∧ Bst (keyF ps) out i b ∧ Kept [] wr w5) (fun _ iv _ => n - (intOf iv).toNat)
      case atStart => exact ⟨0, -1, by omega, rfl, rfl, Bst.zero _ _, Kept.refl _ _⟩
      case round =>
        obtain ⟨i, b, hi, rfl, rfl, hb, hk5⟩ := hrel
        have HB := hx hb
        have HK5 := hx hk5
        have HM5 := hx (hk5.blk HM.out (by simp))
        clear hb hk5
        by_cases hin : i < n
        · have hii : (i : Int) < (n : Int) := by omega
          have cu := HM5.out.cell (usd_get n out i hin)
          by_cases hmem : i ∈ out
          · have HB2 := hx (HB.out.used hmem)
            rw [show decide (i ∈ out) = true by simpa using hmem] at cu
            clear hmem
            go_wp2_with fail
            go_quiet (fail)
            have HK6 := hx (HK5.out.trans0 ((Kept.refl [] wr).drewN nq))
            go_wp2
            go_roundw
            case rel => exact ⟨i + 1, b, by omega, by go_num, rfl, HB2.out, HK6.out⟩
            case measure => simp [intOf] <;> omega
          · have HMEM := hx hmem
            rw [show decide (i ∈ out) = false by simpa using hmem] at cu
            clear hmem
            rcases (show b = -1 ∨ ∃ c : Nat, b = c by
              rcases HB.out with ⟨h, _⟩ | ⟨c, h, _⟩
              · exact .inl h
              · exact .inr ⟨c, h⟩) with rfl | ⟨c, rfl⟩
            · have HB2 := hx (HB.out.first HMEM.out)
              go_wp2_with fail
              go_quiet (fail)
              have HK6 := hx (HK5.out.trans0 ((Kept.refl [] wr).drewN nq))
              go_wp2
              go_roundw
              case rel => exact ⟨i + 1, i, by omega, by go_num, rfl, HB2.out, HK6.out⟩
              case measure => simp [intOf] <;> omega
            · have hci := (HB.out.lt).1
              have hcn : (c : Int) < (n : Int) := by omega
              obtain ⟨ga, xs, rfl, hbl, hpi⟩ := (HP.out.kept (HK.out.trans0 HK5.out)) i hin
              obtain ⟨gb, ys, hgb, hbl2, hpc⟩ := (HP.out.kept (HK.out.trans0 HK5.out)) c (by omega)
              simp only [Option.some.injEq, Addr.mk.injEq, and_true] at hgb
              obtain rfl := hgb
              have HBT := hx (fun (w : World) => show Calls Try.prog 22 #[.agg (rpc (ps.getD i pa0)).toArray, .agg (rpc (ps.getD c pa0)).toArray] w fun e w' => e = .returned (.bool (decide (keyF ps i < keyF ps c))) ∧ Kept [] w w' from rbetter_any (ps.getD i pa0) (ps.getD c pa0) w 1000000 (HO.out i hin) (HO.out c (by omega)))
              have HG := hx (fun (w3 : World) (hk : Kept [] wr w3) => show ((w3.cell? ⟨m, i, none⟩ = some (.bool false) ∧ midOf w3 ga (i * 78) 78 = (rpc (ps.getD i pa0)).toArray ∧ hasMid w3 ga (i * 78) 78 = true) ∧ (midOf w3 ga (c * 78) 78 = (rpc (ps.getD c pa0)).toArray ∧ hasMid w3 ga (c * 78) 78 = true)) ∧ (Hx (Kept [] wr w3)) from
                And.intro (And.intro (And.intro (kept_cell' hk cu) (mid78 (hk.blk hbl (by simp)) hpi)) (mid78 (hk.blk hbl2 (by simp)) hpc)) (hx hk))
              generalize ps.getD i pa0 = pi at *
              generalize ps.getD c pa0 = pc at *
              clear hbl hpi hbl2 hpc cu
              cases hD : decide (keyF ps i < keyF ps c)
              · have HB2 := hx (HB.out.worse (by have h := of_decide_eq_false hD; omega))
                rw [hD] at HBT
                have HQ := hx (fun (w3 : World) (h : ((w3.cell? ⟨m, i, none⟩ = some (.bool false) ∧ midOf w3 ga (i * 78) 78 = (rpc pi).toArray ∧ hasMid w3 ga (i * 78) 78 = true) ∧ (midOf w3 ga (c * 78) 78 = (rpc pc).toArray ∧ hasMid w3 ga (c * 78) 78 = true)) ∧ (Hx (Kept [] wr w3))) => h.2.out)
                clear hD
                go_wp2_with fail
                go_region_held3 (fun w3 => ((w3.cell? ⟨m, i, none⟩ = some (.bool false) ∧ midOf w3 ga (i * 78) 78 = (rpc pi).toArray ∧ hasMid w3 ga (i * 78) 78 = true) ∧ (midOf w3 ga (c * 78) 78 = (rpc pc).toArray ∧ hasMid w3 ga (c * 78) 78 = true)) ∧ (Hx (Kept [] wr w3)))
                  (first | exact hSS | exact HG.out _ (Kept.refl _ _).drew | assumption)
                  (first | (go_at_call 22; refine (HBT.out _).mono ?_; rintro e w' ⟨rfl, hk⟩; have hSS := HG.out _ ((HQ.out _ ‹_›).trans0 hk)))
                have HK7 := hx (HK5.out.trans0 hSS.2.out)
                clear hSS HG HQ HBT
                go_wp2
                go_roundw
                case rel => exact ⟨i + 1, c, by omega, by go_num, rfl, HB2.out, HK7.out⟩
                case measure => simp [intOf] <;> omega
              · have HB2 := hx (HB.out.better HMEM.out (of_decide_eq_true hD))
                rw [hD] at HBT
                have HQ := hx (fun (w3 : World) (h : ((w3.cell? ⟨m, i, none⟩ = some (.bool false) ∧ midOf w3 ga (i * 78) 78 = (rpc pi).toArray ∧ hasMid w3 ga (i * 78) 78 = true) ∧ (midOf w3 ga (c * 78) 78 = (rpc pc).toArray ∧ hasMid w3 ga (c * 78) 78 = true)) ∧ (Hx (Kept [] wr w3))) => h.2.out)
                clear hD
                go_wp2_with fail
                go_region_held3 (fun w3 => ((w3.cell? ⟨m, i, none⟩ = some (.bool false) ∧ midOf w3 ga (i * 78) 78 = (rpc pi).toArray ∧ hasMid w3 ga (i * 78) 78 = true) ∧ (midOf w3 ga (c * 78) 78 = (rpc pc).toArray ∧ hasMid w3 ga (c * 78) 78 = true)) ∧ (Hx (Kept [] wr w3)))
                  (first | exact hSS | exact HG.out _ (Kept.refl _ _).drew | assumption)
                  (first | (go_at_call 22; refine (HBT.out _).mono ?_; rintro e w' ⟨rfl, hk⟩; have hSS := HG.out _ ((HQ.out _ ‹_›).trans0 hk)))
                have HK7 := hx (HK5.out.trans0 hSS.2.out)
                clear hSS HG HQ HBT
                go_wp2
                go_roundw
                case rel => exact ⟨i + 1, i, by omega, by go_num, rfl, HB2.out, HK7.out⟩
                case measure => simp [intOf] <;> omega
        · obtain rfl : i = n := by omega
          obtain ⟨c, rfl⟩ : ∃ c : Nat, b = c := by
            rcases HB.out with ⟨h, h2⟩ | ⟨c, h, _⟩
            · exact absurd (Sel.there (by have := HL.out; omega) h2) id
            · exact ⟨c, h⟩
          have hci := (HB.out.lt).1
          have hcn : (c : Int) < (i : Int) := by omega
          have HSA := hx (HS.out.add HB.out)
          have cm := HM5.out.cell (usd_get i out c hci)
          have hf := HM5.out.free
          have HU5 := hx (own_kept HU.out HK5.out)
          have HKA := hx (HK.out.trans0 HK5.out)
          have HM6 := hx (show Blk (wr.setCell ⟨m, c, none⟩ (.bool true)) m (usd i (out ++ [c])) 4 by
            have h := HM5.out.set c (.bool true)
            rw [usd_set i out c hci] at h
            exact h)
          have HK6 := hx (HKA.out.setCell (p := ⟨m, c, none⟩) (.inr (by rw [HMW.out]; exact Nat.le_refl _)) (.bool true))
          have HU6 := hx (World.ownsRow.kept HU5.out (Kept.toGrown ((Kept.refl [m] wr).setCell (p := ⟨m, c, none⟩) (.inl (by simp)) (.bool true))) (by
            rcases hv : u.ownBlock with _ | q
            · exact .inl rfl
            · refine .inr ?_
              have h := (HU.out.lt q hv).1
              intro e
              simp only [Option.some.injEq] at e
              omega))
          have HMlt := hx (show m < (wr.setCell ⟨m, c, none⟩ (.bool true)).heap.size from HM6.out.lt)
          clear HB HM5 HU5 HKA
          go_upto_region 13 with fail
          clear cm hf
          generalize wr.setCell ⟨m, c, none⟩ (.bool true) = W2 at *
          have HN := hx (Blk.new W2 [.int .i64 (c : Int)] 3)
          have HU7 := hx (HU6.out.alloc (.cells #[.int .i64 (c : Int)] 3))
          have HK7 := hx (HK6.out.alloc (.cells #[.int .i64 (c : Int)] 3))
          have HM7 := hx (HM6.out.alloc (.cells #[.int .i64 (c : Int)] 3))
          have HUB := hx (fun q hq => (HU7.out.lt q hq).1)
          have HMl7 := hx (show m < (W2.alloc (.cells #[.int .i64 (c : Int)] 3)).heap.size from HM7.out.lt)
          clear HU HU6 HK6 HM6 HK HK5
          go_wp2_with (first
            | (at_builtin; refine wpList_app rfl (.tmp 47) (.tmp 49) 49 rfl (m + 1) 3 (.int .i64 0) 1 8 infoInt Try.underlying49 rfl (by omega) u k (ints out) rfl HU7.out (some ⟨W2.heap.size, 0, none⟩) 1 1 [.int .i64 (c : Int)] rfl rfl (by simp) (by omega) (blk_news HN.out) (one_int c) (by unfold maxLen; omega) (by omega) HMl7.out ?_; intro v5 w5 ho5 hg5; have HO8 := hx ho5; have HK8 := hx (HK7.out.grown hg5 (fun q hq => .inr (by have h := HUB.out q hq; rw [HMW.out] at h; omega))); have HM8 := hx (grown_blk hg5 HM7.out (fun e => by have h := HUB.out m e.symm; omega)); clear ho5 hg5 HU7 HK7 HM7 HN))
          go_wp2
          go_roundw
          case rel => exact ⟨k + 1, out ++ [c], v5, by omega, by go_num, rfl, by rw [List.length_append, HL.out]; rfl, HSA.out, by rw [ints_push]; exact HO8.out, HM8.out, HK8.out⟩
          case measure => simp [intOf] <;> omega
    · obtain rfl : k = n := by omega
      have HR := hx (HS.out.full (by have := HL.out; omega))
      go_wp2
      go_ret
      exact ⟨_, out, rfl, HR.out, HU.out.mono (by rw [HMW.out]; omega), HK.out⟩
end Go.Proofs.Ythkjllphefnphaa
