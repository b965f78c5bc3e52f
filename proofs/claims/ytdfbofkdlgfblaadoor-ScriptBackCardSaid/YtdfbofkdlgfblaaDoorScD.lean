/- Numbers as texts: Number of the program, below 0. -/
import Derived.Test.YtdfbofkdlgfblaaDoorScC
namespace Go.Proofs.YtdfbofkdlgfblaaDoor
open Go Go.RowKit
set_option maxRecDepth 100000 in
set_option maxHeartbeats 6400000 in
theorem num_neg (N : Nat) (w : World) (hN : N ≤ 9223372036854775808) (h0 : N ≠ 0) :
    Calls Tryd.prog 9 #[.int .i64 (-(N : Int))] w fun e w' => e = .returned (txt (45 :: digs N)) ∧ Kept [] w w' := by
  have HN := hx (And.intro hN h0)
  have hn0 : (-(N : Int) == 0) = false := by simp; omega
  have hnn : -(N : Int) < 0 := by omega
  clear hN h0
  go_enter Tryd.func9, Tryd.ntmps9
  go_wp2_with fail
  go_loopw [3, 4] (fun sv mv wr => ∃ (m : Nat) (out : List UInt8) (u : Value), m ≤ N ∧ mv = .int .i64 (-(m : Int)) ∧ u = sv ∧ PgI N m out ∧ wr.ownsRow w.heap.size 5 1 u out.length (by1 out) ∧ Kept [] w wr) (fun _ mv _ => (-(intOf mv)).toNat)
  case atStart => exact ⟨N, [], _, Nat.le_refl _, rfl, rfl, by unfold PgI; rfl, World.ownsRow_nil _ _ _ _, Kept.refl _ _⟩
  case round =>
    obtain ⟨m, out, u, hm, rfl, hu, hi, ho, hk⟩ := hrel
    subst hu
    have HI := hx hi
    have HO := hx ho
    have HK := hx hk
    have HM := hx hm
    have hlen := hi.len (by have := HN.out.1; omega)
    have HLN := hx hlen
    by_cases hz : m = 0
    · subst hz
      have hmz : (-((0 : Nat) : Int) != 0) = false := rfl
      have hdone := hi.done
      have HD := hx hdone
      have HLN := hx hlen
      clear hi ho hk hm hlen hdone
      go_upto_region 11 with (at_builtin; refine wpList_app rfl (.tmp 27) (.tmp 28) 60 rfl w.heap.size 5 (.int .u8 0) 1 1 infoB Tryd.underlying60 rfl (by omega) u out.length (by1 out) rfl (World.ownsRow.alloc HO.out _) (some ⟨_, 0, none⟩) 1 1 [.int .u8 45] rfl rfl (by simp) (by omega) (newsB (Blk.new _ [.int .u8 45] 5)) (by intro v hv; simp at hv; subst hv; rfl) (by have := HLN.out; simp [maxLen]; omega) (by have := HLN.out; omega) (by have h1 := HK.out.size; simp; omega) ?_; intro u2 w8 ho8 hg8; have HK8 := hx ((HK.out.alloc _).grown hg8 (fun q hq => .inr (HO.out.lt q hq).1)); have ho9 : w8.ownsRow w.heap.size 5 1 u2 (out ++ [45]).length (by1 (out ++ [45])) := (by rw [by1_snoc, List.length_append]; exact ho8); have HN2 := hx (show (out ++ [45]).length ≤ 20 ∧ 0 < (out ++ [45]).length by have := HLN.out; simp; omega); clear ho8 hg8; obtain ⟨o2, ho2⟩ : ∃ o2, o2 = out ++ [45] := ⟨_, rfl⟩; rw [← ho2] at ho9 HN2; have HO2 := hx ho2; obtain ⟨g, cap, cur, rfl, hbg, hB, htk, hle⟩ := own_blk1 ho9 HN2.out.2; have HB := hx hB; have HV := hx (Rv.start (l := o2) (n := o2.length) rfl htk hle); have HG := hx (And.intro hbg hB.lt); clear ho2 ho9 hB htk hle hbg; generalize hL : o2.length = n at *; have HL := hx hL; clear hL; have hwl : IntKind.i64.wrap ((n : Int) - 1) = (n : Int) - 1 := (by have h := HN2.out; rw [IntKind.wrap_i64]; omega))
      have hn19 : n ≤ 20 := HN2.out.1
      have HPO := hx HN2.out.2
      go_loopw [5, 6] (fun iv kv wx => ∃ (j K : Nat) (xs : List Value), K = n - 1 - j ∧ 2 * j ≤ n ∧ iv = .int .i64 (j : Int) ∧ kv = .int .i64 (K : Int) ∧ Rv o2 n j xs ∧ Blk wx g xs 5 ∧ Kept [] w wx) (fun _ kv _ => (intOf kv).toNat)
      case atStart =>
        refine ⟨0, n - 1, cur, rfl, by omega, rfl, ?_, HV.out, HB.out, HK8.out⟩
        have h := HPO.out
        congr 1
        omega
      case round =>
        clear HV HB
        obtain ⟨j, K, xs, hK, h2j, rfl, rfl, hv, hb, hk⟩ := hrel
        have HVV := hx hv
        have HBB := hx hb
        have HKK := hx hk
        have HKE := hx hK
        by_cases hlt : j < K
        · have hjk : (j : Int) < (K : Int) := by omega
          obtain ⟨e1, e2⟩ := hv.cell_j (by omega)
          rw [← hK] at e2
          have cj := hb.cell e1
          have ck := hb.cell e2
          have hf := hb.free
          have hjn : (j : Int) < (n : Int) := by omega
          have hkn : (K : Int) < (n : Int) := by omega
          have hj0 : (0 : Int) ≤ (j : Int) := by omega
          have hk0 : (0 : Int) ≤ (K : Int) := by omega
          have HS := hx (hv.swap (by omega))
          rw [← hK] at HS
          have HLT := hx hlt
          unfold bv at cj ck
          go_upto_region 13 with fail
          clear hv hb hk hK e1 e2
          have wj : IntKind.i64.wrap ((j : Int) + 1) = ((j + 1 : Nat) : Int) := by have h := HLT.out; rw [IntKind.wrap_i64]; omega
          have wk : IntKind.i64.wrap ((K : Int) - 1) = ((K - 1 : Nat) : Int) := by have h := HLT.out; rw [IntKind.wrap_i64]; omega
          go_region
          go_wp2_with fail
          go_roundw
          case rel =>
            have h := HLT.out
            have h2 := HKE.out
            refine ⟨j + 1, K - 1, _, by omega, by omega, by congr 1, rfl, HS.out, ((HBB.out.set j _).set K _).drew, ((HKK.out.setCell (.inr HG.out.1) _).setCell (.inr HG.out.1) _).drew⟩
          case measure =>
            simp only [intOf]
            have h := HLT.out
            omega
        · have hjk : ¬ (j : Int) < (K : Int) := by omega
          have hcv := conv_rev (cap := cap) hb (hv.done HL.out (by omega) h2j) HL.out
          clear hv hb hk hK h2j
          go_wp2_with fail
          go_ret
          refine ⟨?_, HKK.out⟩
          unfold digs
          rw [if_neg HN.out.2, ← HD.out, HO2.out, List.reverse_append]
          rfl
    · have hmz : (-(m : Int) != 0) = true := by simp; omega
      have HC := hx (dig_toNat (d := m % 10) (Nat.mod_lt _ (by omega)))
      have HNX := hx (hi.next hz)
      obtain ⟨c, hc⟩ : ∃ c, c = UInt8.ofNat (48 + m % 10) := ⟨_, rfl⟩
      rw [← hc] at HC HNX
      have HCE := hx (show (c.toNat : Int) = 48 + (m : Int) % 10 by have h := HC.out; omega)
      have hife : (if -((m : Int) % 10) < (m : Int) % 10 then (m : Int) % 10 else -((m : Int) % 10)) = (m : Int) % 10 := by split <;> omega
      have hw : wrap64 (-((m : Int) / 10)) = -((m / 10 : Nat) : Int) := by have h := HM.out; have h2 := HN.out; unfold wrap64; omega
      have HLT := hx (show m / 10 < m by omega)
      clear hi ho hk hm hc hlen hz
      go_wp2_with (at_builtin; refine wpList_app rfl (.tmp 14) (.tmp 23) 60 rfl w.heap.size 5 (.int .u8 0) 1 1 infoB Tryd.underlying60 rfl (by omega) u out.length (by1 out) rfl (World.ownsRow.alloc HO.out _) (some ⟨_, 0, none⟩) 1 1 [.int .u8 (48 + (m : Int) % 10)] rfl rfl (by simp) (by omega) (newsB (Blk.new _ [.int .u8 (48 + (m : Int) % 10)] 5)) (by intro v hv; simp at hv; subst hv; rfl) (by have := HLN.out; simp [maxLen]; omega) (by have := HLN.out; omega) (by have h1 := HK.out.size; simp; omega) ?_; intro u2 w8 ho8 hg8; have HO8 := hx ho8; have HK8 := hx ((HK.out.alloc _).grown hg8 (fun q hq => .inr (HO.out.lt q hq).1)); clear ho8 hg8)
      go_roundw
      case rel => exact ⟨m / 10, out ++ [c], u2, by have h := HM.out; omega, by rw [hw], rfl, HNX.out, by rw [by1_snoc, List.length_append, HCE.out]; exact HO8.out, HK8.out⟩
      case measure =>
        rw [hw]
        simp only [intOf]
        have h := HLT.out
        omega
set_option maxRecDepth 100000 in
theorem num_zero (w : World) : Calls Tryd.prog 9 #[.int .i64 0] w fun e w' => e = .returned (txt (digs 0)) ∧ Kept [] w w' := by
  go_enter Tryd.func9, Tryd.ntmps9
  go_wp2
  go_ret
  exact ⟨rfl, Kept.refl _ _⟩
/-- The program's Number, of any. -/
theorem num_any (n : Int) (w : World) (hn : in64 n) :
    Calls Tryd.prog 9 #[.int .i64 n] w fun e w' => e = .returned (txt (numL n)) ∧ Kept [] w w' := by
  unfold in64 at hn
  by_cases h0 : n < 0
  · have h := num_neg n.natAbs w (by omega) (by omega)
    rw [show (-(n.natAbs : Int)) = n by omega] at h
    unfold numL
    rw [if_pos h0]
    exact h
  · by_cases hz : n = 0
    · subst hz
      exact num_zero w
    · have h := num_pos n.natAbs w (by omega) (by omega)
      rw [show (n.natAbs : Int) = n by omega] at h
      unfold numL
      rw [if_neg h0]
      exact h
end Go.Proofs.YtdfbofkdlgfblaaDoor
