/- The program's rounds. -/
import Derived.Test.YtgbikakhnmjllaaLadC
import Derived.Test.YtgbikakhnmjllaaLadR
import Derived.Test.YtgbikakhnmjllaaWord
import Derived.Deep.DeepCutAuto
import Derived.Deep.RegionLaw
import Derived.Deep.Onto
namespace Go.Proofs.Ytgbikakhnmjllaa
open Go Go.RowKit
def prN (p : Nat × Nat) : Int × Int := (p.1, p.2)
theorem rem_nat (a b : Nat) : ((a : Int).tmod (b : Int)) = ((a % b : Nat) : Int) := by
  rw [Int.tmod_eq_emod_of_nonneg (by omega)]; omega
theorem infoPr : (Try.prog.info? 53).map (fun i => (i.zero, i.size, i.bytes)) = some (some (.agg #[.int .i64 0, .int .i64 0]), 2, 16) := by kernel_rfl
theorem rd_len (n r i : Nat) : (rd n r i).length ≤ i := by
  induction i with
  | zero => simp [rd]
  | succ i ih =>
    unfold rd
    split
    · simp; omega
    · omega
theorem own_push2' {w : World} {base : Nat} {e : TypeId} {v : Value} {out : List (Nat × Nat)} {x y : Nat} (h : w.ownsRow base e 2 v (out.length + 1) (cl2 (out.map prN) ++ ci2 ((x : Int), (y : Int)))) : w.ownsRow base e 2 v (out ++ [(x, y)]).length (cl2 ((out ++ [(x, y)]).map prN)) := by
  rw [List.map_append, List.map_cons, List.map_nil, cl2_push, List.length_append]
  exact h
def RoP (T : TypeId) (w : World) (l : List (Nat × Nat)) (e : Ending) (w' : World) : Prop :=
  ∃ a k c, e = .returned (.slice a k c) ∧ k = l.length ∧ k ≤ c ∧ LsY T w' a (l.map prN) ∧ Kept [] w w'
theorem ro_end {T : TypeId} {w wr : World} {v : Value} {l m : List (Nat × Nat)} (hm : m = l) (ho : wr.ownsRow w.heap.size T 2 v l.length (cl2 (l.map prN))) (hk : Kept [] w wr) : RoP T w m (.returned v) wr := by
  subst hm
  obtain ⟨h1, a, c, rfl, h2, h3⟩ := ls_form ho
  exact ⟨a, _, c, rfl, rfl, h2, ls_formY ho, hk⟩
set_option maxRecDepth 100000 in
set_option maxHeartbeats 12000000 in
theorem round_any (n r : Nat) (w : World) (hn : n ≤ 32) (hr : r < evN n - 1) :
    Calls Try.prog 25 #[.int .i64 n, .int .i64 (evN n), .int .i64 r] w (RoP 53 w (rnd n r)) := by
  generalize hPP : RoP 53 w (rnd n r) = PP
  have HPP := hx hPP
  have hM : evN n ≤ 33 ∧ 2 ≤ evN n := by unfold evN at *; omega
  have HM := hx (show rnd n r = rd n r (evN n / 2) from rfl)
  have HPA := hx (fun i => show paN n r i = (r + i) % (evN n - 1) from rfl)
  have HPB := hx (fun i => show pbN n r i = if i = 0 then evN n - 1 else (r + evN n - 1 - i) % (evN n - 1) from rfl)
  have HRD := hx (fun i => show rd n r (i + 1) = if paN n r i < n ∧ pbN n r i < n then rd n r i ++ [(min (paN n r i) (pbN n r i), max (paN n r i) (pbN n r i))] else rd n r i from rfl)
  have hq : ((evN n : Nat) : Int).tdiv 2 = ((evN n / 2 : Nat) : Int) := by
    rw [Int.tdiv_eq_ediv_of_nonneg (by omega)]; omega
  clear hPP
  generalize evN n = M at *
  go_enter Try.func25, Try.ntmps25
  go_wp2_with fail
  go_loopw [7, 13] (fun ov cv wr => ∃ (i : Nat) (u : Value), i ≤ M / 2 ∧ cv = .int .i64 i ∧ u = ov ∧ wr.ownsRow w.heap.size 53 2 u (rd n r i).length (cl2 ((rd n r i).map prN)) ∧ Kept [] w wr) (fun _ cv _ => M / 2 - (intOf cv).toNat)
  case atStart => exact ⟨0, _, by omega, rfl, rfl, World.ownsRow_nil _ _ _ _, Kept.refl _ _⟩
  case round =>
    obtain ⟨i, u, hi, rfl, rfl, ho, hk⟩ := hrel
    have HO := hx ho
    have HK := hx hk
    have HLN := hx (rd_len n r i)
    clear ho hk
    by_cases hlt : i < M / 2
    · have hj : (i : Int) < ((M / 2 : Nat) : Int) := by omega
      have hz : ¬ ((M : Int) - 1) = 0 := by omega
      have ha : ((r : Int) + (i : Int)) % ((M : Int) - 1) = ((paN n r i : Nat) : Int) := by
        rw [HPA.out, Int.natCast_emod]
        congr 1
        omega
      have hb : ((r : Int) + (M : Int) - 1 - (i : Int)) % ((M : Int) - 1) = (((r + M - 1 - i) % (M - 1) : Nat) : Int) := by
        rw [Int.natCast_emod]
        congr 1 <;> omega
      have HAB := hx (HPB.out i)
      have hAm : paN n r i < M - 1 := by rw [HPA.out]; exact Nat.mod_lt _ (by omega)
      have hBm : (r + M - 1 - i) % (M - 1) < M - 1 := Nat.mod_lt _ (by omega)
      generalize (r + M - 1 - i) % (M - 1) = B0 at *
      replace HRD := hx (HRD.out i)
      generalize paN n r i = A at *
      go_upto_region 5 with fail
      have HOd := hx HO.out.drew
      have HKd := hx HK.out.drew
      clear HO HK
      go_region
      generalize wr.drew = w5 at *
      have HO := HOd
      have HK := HKd
      clear HOd HKd
      simp only [ha, hb]
      clear ha hb
      rcases Nat.eq_zero_or_pos i with h0 | hpos
      · have hB : pbN n r i = M - 1 := by rw [HAB.out, if_pos h0]
        have hin : (i : Int) = 0 := by omega
        clear HAB
        rw [hB] at HRD
        generalize hB' : M - 1 = B at *
        have hBi : ((M : Int) - 1) = (B : Int) := by omega
        have hab3 : (A : Int) < (B : Int) := by omega
        by_cases hkp : A < n ∧ B < n
        · have hk1 : (A : Int) < (n : Int) := by omega
          have hk2 : (B : Int) < (n : Int) := by omega
          have HE := hx (show rd n r (i + 1) = rd n r i ++ [(A, B)] by rw [HRD.out, if_pos hkp, show min A B = A by omega, show max A B = B by omega])
          go_wp2_with (at_builtin; refine wpList_app rfl (.tmp 43) (.tmp 51) 49 rfl w.heap.size 53 (.agg #[.int .i64 0, .int .i64 0]) 2 16 infoPr Try.underlying49 rfl (by omega) u (rd n r i).length (cl2 ((rd n r i).map prN)) rfl (World.ownsRow.alloc HO.out _) (some ⟨_, 0, none⟩) 1 1 (ci2 (A, B)) rfl rfl (by simp) (by omega) (blk_news (Blk.new _ (ci2 (A, B)) 53)) (one_ci2 _) (by unfold maxLen; have := HLN.out; omega) (by have := HLN.out; omega) (HK.out.alloc _).size ?_; intro u2 w8 ho8 hg8; have HK8 := hx ((HK.out.alloc _).grown hg8 (fun q hq => .inr (HO.out.lt q hq).1)); have HO8 := hx (own_push2' ho8); clear ho8 hg8 HO HK)
          go_wp2
          go_roundw
          case rel => exact ⟨i + 1, u2, by omega, by go_num, rfl, by rw [HE.out]; exact HO8.out, HK8.out⟩
          case measure => simp [intOf] <;> omega
        · have HE := hx (show rd n r (i + 1) = rd n r i by rw [HRD.out, if_neg hkp])
          by_cases hk1 : (A : Int) < (n : Int)
          · have hk2 : ¬ (B : Int) < (n : Int) := by omega
            go_wp2
            go_roundw
            case rel => exact ⟨i + 1, u, by omega, by go_num, rfl, by rw [HE.out]; exact HO.out, HK.out⟩
            case measure => simp [intOf] <;> omega
          · go_wp2
            go_roundw
            case rel => exact ⟨i + 1, u, by omega, by go_num, rfl, by rw [HE.out]; exact HO.out, HK.out⟩
            case measure => simp [intOf] <;> omega
      · have hB : pbN n r i = B0 := by rw [HAB.out, if_neg (by omega)]
        clear HAB
        rw [hB] at HRD
        have hin : ¬ (i : Int) = 0 := by omega
        generalize B0 = B at *
        by_cases hkp : A < n ∧ B < n
        · have hk1 : (A : Int) < (n : Int) := by omega
          have hk2 : (B : Int) < (n : Int) := by omega
          by_cases hab : A ≤ B
          · rcases Nat.lt_or_eq_of_le hab with hab2 | hab2
            · have hab3 : (A : Int) < (B : Int) := by omega
              have HE := hx (show rd n r (i + 1) = rd n r i ++ [(A, B)] by rw [HRD.out, if_pos hkp, show min A B = A by omega, show max A B = B by omega])
              go_wp2_with (at_builtin; refine wpList_app rfl (.tmp 43) (.tmp 51) 49 rfl w.heap.size 53 (.agg #[.int .i64 0, .int .i64 0]) 2 16 infoPr Try.underlying49 rfl (by omega) u (rd n r i).length (cl2 ((rd n r i).map prN)) rfl (World.ownsRow.alloc HO.out _) (some ⟨_, 0, none⟩) 1 1 (ci2 (A, B)) rfl rfl (by simp) (by omega) (blk_news (Blk.new _ (ci2 (A, B)) 53)) (one_ci2 _) (by unfold maxLen; have := HLN.out; omega) (by have := HLN.out; omega) (HK.out.alloc _).size ?_; intro u2 w8 ho8 hg8; have HK8 := hx ((HK.out.alloc _).grown hg8 (fun q hq => .inr (HO.out.lt q hq).1)); have HO8 := hx (own_push2' ho8); clear ho8 hg8 HO HK)
              go_wp2
              go_roundw
              case rel => exact ⟨i + 1, u2, by omega, by go_num, rfl, by rw [HE.out]; exact HO8.out, HK8.out⟩
              case measure => simp [intOf] <;> omega
            · obtain rfl := hab2
              have HE := hx (show rd n r (i + 1) = rd n r i ++ [(A, A)] by rw [HRD.out, if_pos hkp, show min A A = A by omega, show max A A = A by omega])
              go_wp2_with (at_builtin; refine wpList_app rfl (.tmp 43) (.tmp 51) 49 rfl w.heap.size 53 (.agg #[.int .i64 0, .int .i64 0]) 2 16 infoPr Try.underlying49 rfl (by omega) u (rd n r i).length (cl2 ((rd n r i).map prN)) rfl (World.ownsRow.alloc HO.out _) (some ⟨_, 0, none⟩) 1 1 (ci2 (A, A)) rfl rfl (by simp) (by omega) (blk_news (Blk.new _ (ci2 (A, A)) 53)) (one_ci2 _) (by unfold maxLen; have := HLN.out; omega) (by have := HLN.out; omega) (HK.out.alloc _).size ?_; intro u2 w8 ho8 hg8; have HK8 := hx ((HK.out.alloc _).grown hg8 (fun q hq => .inr (HO.out.lt q hq).1)); have HO8 := hx (own_push2' ho8); clear ho8 hg8 HO HK)
              go_wp2
              go_roundw
              case rel => exact ⟨i + 1, u2, by omega, by go_num, rfl, by rw [HE.out]; exact HO8.out, HK8.out⟩
              case measure => simp [intOf] <;> omega
          · have hab3 : (B : Int) < (A : Int) := by omega
            have HE := hx (show rd n r (i + 1) = rd n r i ++ [(B, A)] by rw [HRD.out, if_pos hkp, show min A B = B by omega, show max A B = A by omega])
            go_wp2_with (at_builtin; refine wpList_app rfl (.tmp 43) (.tmp 51) 49 rfl w.heap.size 53 (.agg #[.int .i64 0, .int .i64 0]) 2 16 infoPr Try.underlying49 rfl (by omega) u (rd n r i).length (cl2 ((rd n r i).map prN)) rfl (World.ownsRow.alloc HO.out _) (some ⟨_, 0, none⟩) 1 1 (ci2 (B, A)) rfl rfl (by simp) (by omega) (blk_news (Blk.new _ (ci2 (B, A)) 53)) (one_ci2 _) (by unfold maxLen; have := HLN.out; omega) (by have := HLN.out; omega) (HK.out.alloc _).size ?_; intro u2 w8 ho8 hg8; have HK8 := hx ((HK.out.alloc _).grown hg8 (fun q hq => .inr (HO.out.lt q hq).1)); have HO8 := hx (own_push2' ho8); clear ho8 hg8 HO HK)
            go_wp2
            go_roundw
            case rel => exact ⟨i + 1, u2, by omega, by go_num, rfl, by rw [HE.out]; exact HO8.out, HK8.out⟩
            case measure => simp [intOf] <;> omega
        · have HE := hx (show rd n r (i + 1) = rd n r i by rw [HRD.out, if_neg hkp])
          by_cases hk1 : (A : Int) < (n : Int)
          · have hk2 : ¬ (B : Int) < (n : Int) := by omega
            go_wp2
            go_roundw
            case rel => exact ⟨i + 1, u, by omega, by go_num, rfl, by rw [HE.out]; exact HO.out, HK.out⟩
            case measure => simp [intOf] <;> omega
          · go_wp2
            go_roundw
            case rel => exact ⟨i + 1, u, by omega, by go_num, rfl, by rw [HE.out]; exact HO.out, HK.out⟩
            case measure => simp [intOf] <;> omega
    · obtain rfl : i = M / 2 := by omega
      have hj : ¬ ((M / 2 : Nat) : Int) < ((M / 2 : Nat) : Int) := by omega
      go_wp2
      rw [← HPP.out]
      exact ro_end HM.out HO.out HK.out
end Go.Proofs.Ytgbikakhnmjllaa
