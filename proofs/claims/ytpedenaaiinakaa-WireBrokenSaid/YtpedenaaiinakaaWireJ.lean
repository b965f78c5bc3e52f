import Derived.Test.YtpedenaaiinakaaWireI
import Derived.BigGuardPart
namespace Go.Proofs.Ytpedenaaiinakaa
open Go Go.RowKit
/-- What Encode gives. -/
def encL (d : Dg) : List UInt8 := if chk d = 0 then sealed (plainL d) else []
theorem encL_good (d : Dg) (h : chk d = 0) : (encL d).length = 33 + d.data.length := by unfold encL; rw [if_pos h, len_sealed]
theorem encL_le (d : Dg) : (encL d).length ≤ 1233 := by
  by_cases h : chk d = 0
  · rw [encL_good d h]; have := (good_of d h).len; omega
  · simp [encL, h]
theorem encode_any (t : Nat) (d : Dg) (p : Option Addr) (n c : Nat) (w : World) (hd : Bts w p n c d.data) (hf : DgFits d) (ht : Blk w t (tabk 256) 60) :
    Calls Try.prog 10 #[.pointer (some ⟨t, 0, none⟩), .agg (dgl d p c).toArray] w fun e w' => ∃ v, e = .returned (.tuple #[v, .int .i64 (chk d)]) ∧ OwnB w' w.heap.size v (encL d).length (encL d) ∧ Kept [] w w' := by
  obtain rfl := hd.hlen
  by_cases hc : chk d = 0
  · refine (encode_good t d p _ c w hd hf hc ht).mono ?_
    rintro e w' ⟨v, rfl, ho, hk⟩
    refine ⟨v, by rw [hc], ?_, hk⟩
    rw [encL_good d hc]
    unfold encL; rw [if_pos hc]; exact ho
  · refine (encode_bad t d p _ c w hd hc).mono ?_
    rintro e w' ⟨rfl, hk⟩
    refine ⟨_, rfl, ?_, hk⟩
    unfold encL; rw [if_neg hc]; exact World.ownsRow_nil _ _ _ 1
theorem rencode_any (d : Dg) (p : Option Addr) (n c : Nat) (w : World) (hd : Bts w p n c d.data) (hf : DgFits d) :
    Calls Try.prog 12 #[.agg (dgl d p c).toArray] w fun e w' => ∃ v, e = .returned (.tuple #[v, .int .i64 (chk d)]) ∧ OwnB w' w.heap.size v (encL d).length (encL d) ∧ Kept [] w w' := by
  obtain rfl := hd.hlen
  by_cases hc : chk d = 0
  · refine (rencode_good d p _ c w hd hf hc).mono ?_
    rintro e w' ⟨v, rfl, ho, hk⟩
    refine ⟨v, by rw [hc], ?_, hk⟩
    rw [encL_good d hc]
    unfold encL; rw [if_pos hc]; exact ho
  · refine (rencode_bad d p _ c w hd hc).mono ?_
    rintro e w' ⟨rfl, hk⟩
    refine ⟨_, rfl, ?_, hk⟩
    unfold encL; rw [if_neg hc]; exact World.ownsRow_nil _ _ _ 1
end Go.Proofs.Ytpedenaaiinakaa
