/- Numbers as texts: Number of the document, below 0. -/
import Derived.Test.YtdfbofkdlgfblaaDoorScA
namespace Go.Proofs.YtdfbofkdlgfblaaDoor
open Go Go.RowKit
set_option maxRecDepth 100000 in
set_option maxHeartbeats 6400000 in
theorem rnum_neg (N : Nat) (w : World) (hN : N ≤ 9223372036854775808) (h0 : N ≠ 0) :
    Calls Tryd.prog 11 #[.int .i64 (-(N : Int))] w fun e w' => e = .returned (txt (45 :: digs N)) ∧ Kept [] w w' := by
  have HN := hx (And.intro hN h0)
  clear hN h0
  go_enter Tryd.func11, Tryd.ntmps11
  go_wp2_with fail
  go_loopw [3, 4] (fun sv mv wr => ∃ (m : Nat) (acc : List UInt8), m ≤ N ∧ mv = .int .i64 (-(m : Int)) ∧ sv = txt acc ∧ NuI N m acc ∧ Kept [] w wr) (fun _ mv _ => (-(intOf mv)).toNat + 1)
  case atStart => exact ⟨N, [], Nat.le_refl _, rfl, rfl, .inl ⟨rfl, rfl⟩, Kept.refl _ _⟩
  case round =>
    obtain ⟨m, acc, hm, rfl, rfl, hi, hk⟩ := hrel
    have HI := hx hi
    have HK := hx hk
    have HM := hx hm
    have HC := hx (dig_toNat (d := m % 10) (Nat.mod_lt _ (by omega)))
    have HL := hx (fun hlt => hi.last hlt)
    have HR := hx (fun hge => hi.more hge)
    have hacc := hi.len (by have := HN.out.1; omega)
    obtain ⟨c, hc⟩ : ∃ c, c = UInt8.ofNat (48 + m % 10) := ⟨_, rfl⟩
    rw [← hc] at HC HR
    have HCC := hx hc
    have HTA := hx (txt_add [c] acc)
    have HTM := hx (txt_add [45] ([c] ++ acc))
    have HM := hx hm
    have hN0 : (-(N : Int)) < 0 := by have h := HN.out; omega
    have HW := hx (show wrap64 (-((m : Int) / 10)) = -((m / 10 : Nat) : Int) by have h := HM.out; have h2 := HN.out; unfold wrap64; omega)
    clear hi hk hm hc
    by_cases hz : (0 : Int) < (m : Int) % 10
    · have hz2 : (0 : Int) ≤ (m : Int) % 10 := by omega
      have hcv := conv_one wr c (48 + (m : Int) % 10) (by have h := HC.out; omega)
      by_cases hlt : m < 10
      · have hw : (m : Int) / 10 = 0 := by omega
        go_wp2
        go_ret
        exact ⟨congrArg (fun x => Ending.returned (Value.string x)) ((congrArg (fun x => (⟨#[45]⟩ : ByteArray) ++ x) HTA.out).trans (HTM.out.trans (by rw [HL.out hlt, HCC.out, show m % 10 = m by omega]; rfl))), HK.out.alloc _⟩
      · have hm0 : (wrap64 (-((m : Int) / 10)) == 0) = false := by
          rw [HW.out]
          simp
          omega
        go_wp2
        refine ⟨⟨m / 10, [c] ++ acc, by have h := HM.out; omega, by rw [HW.out], congrArg Value.string HTA.out, HR.out (by omega), HK.out.alloc _⟩, ?_⟩
        rw [HW.out]
        simp only [intOf]
        omega
    · have hz2 : (m : Int) % 10 = 0 := by omega
      have hcv := conv_one wr c (48) (by have h := HC.out; omega)
      by_cases hlt : m < 10
      · have hw : (m : Int) / 10 = 0 := by omega
        go_wp2
        go_ret
        exact ⟨congrArg (fun x => Ending.returned (Value.string x)) ((congrArg (fun x => (⟨#[45]⟩ : ByteArray) ++ x) HTA.out).trans (HTM.out.trans (by rw [HL.out hlt, HCC.out, show m % 10 = m by omega]; rfl))), HK.out.alloc _⟩
      · have hm0 : (wrap64 (-((m : Int) / 10)) == 0) = false := by
          rw [HW.out]
          simp
          omega
        go_wp2
        refine ⟨⟨m / 10, [c] ++ acc, by have h := HM.out; omega, by rw [HW.out], congrArg Value.string HTA.out, HR.out (by omega), HK.out.alloc _⟩, ?_⟩
        rw [HW.out]
        simp only [intOf]
        omega
/-- The document's Number, of any. -/
theorem rnum_any (n : Int) (w : World) (hn : in64 n) :
    Calls Tryd.prog 11 #[.int .i64 n] w fun e w' => e = .returned (txt (numL n)) ∧ Kept [] w w' := by
  unfold in64 at hn
  by_cases h0 : n < 0
  · have h := rnum_neg n.natAbs w (by omega) (by omega)
    rw [show (-(n.natAbs : Int)) = n by omega] at h
    unfold numL
    rw [if_pos h0]
    exact h
  · have h := rnum_pos n.natAbs w (by omega)
    rw [show ((n.natAbs : Nat) : Int) = n by omega] at h
    unfold numL
    rw [if_neg h0]
    exact h
end Go.Proofs.YtdfbofkdlgfblaaDoor
