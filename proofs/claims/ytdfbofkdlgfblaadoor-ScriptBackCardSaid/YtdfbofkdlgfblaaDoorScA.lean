/- Numbers as texts: Number of the document. -/
import Derived.Test.YtdfbofkdlgfblaaDoorScP
import Derived.Test.YtdfbofkdlgfblaaDoorOpen
import Derived.Test.YtdfbofkdlgfblaaDoorApg
import Derived.Laws.IdiomStrings
namespace Go.Proofs.YtdfbofkdlgfblaaDoor
open Go Go.RowKit
/-- A text. -/
abbrev txt (l : List UInt8) : Value := .string ⟨l.toArray⟩
/-- Where the document's Number stands. -/
def NuI (N m : Nat) (acc : List UInt8) : Prop := (acc = [] ∧ m = N) ∨ (m ≠ 0 ∧ digs N = digs m ++ acc)
theorem NuI.last {N m : Nat} {acc : List UInt8} (h : NuI N m acc) (hm : m < 10) : digs N = UInt8.ofNat (48 + m) :: acc := by
  rcases h with ⟨rfl, rfl⟩ | ⟨_, h⟩
  · exact digs_small hm
  · rw [h, digs_small hm]; rfl
theorem NuI.more {N m : Nat} {acc : List UInt8} (h : NuI N m acc) (hm : 10 ≤ m) : NuI N (m / 10) (UInt8.ofNat (48 + m % 10) :: acc) := by
  refine .inr ⟨by omega, ?_⟩
  rcases h with ⟨rfl, rfl⟩ | ⟨_, h⟩
  · rw [digs_big hm]
  · rw [h, digs_big hm]; simp
theorem NuI.len {N m : Nat} {acc : List UInt8} (h : NuI N m acc) (hN : N ≤ 9223372036854775808) : acc.length ≤ 19 := by
  have hd := digs_len (m := N) (by omega)
  rcases h with ⟨rfl, _⟩ | ⟨_, h⟩
  · simp
  · rw [h, List.length_append] at hd
    omega
/-- A row of one byte, as a text. -/
theorem conv_one (w : World) (c : UInt8) (n : Int) (hn : n = (c.toNat : Int)) : (convert 60 9 (.slice (some ⟨w.heap.size, 0, none⟩) 1 1)).run Tryd.prog (w.alloc (.cells #[.int .u8 n] 5)) = .ok (txt [c]) (w.alloc (.cells #[.int .u8 n] 5)) := by
  subst hn
  refine run_convert_bytes_back _ 60 9 5 ⟨w.heap.size, 0, none⟩ 1 [c] Tryd.underlying60 Tryd.underlying5 Tryd.underlying9 (fun j hj => ?_)
  have hj0 : j = 0 := by simp at hj; omega
  subst hj0
  exact (Blk.new w [.int .u8 (c.toNat : Int)] 5).cell (i := 0) rfl
theorem txt_add (x y : List UInt8) : (⟨x.toArray⟩ : ByteArray) ++ ⟨y.toArray⟩ = ⟨(x ++ y).toArray⟩ := by
  apply ByteArray.ext
  simp
set_option maxRecDepth 100000 in
set_option maxHeartbeats 6400000 in
theorem rnum_pos (N : Nat) (w : World) (hN : N ≤ 9223372036854775807) :
    Calls Tryd.prog 11 #[.int .i64 (N : Int)] w fun e w' => e = .returned (txt (digs N)) ∧ Kept [] w w' := by
  have HN := hx hN
  clear hN
  go_enter Tryd.func11, Tryd.ntmps11
  go_wp2_with fail
  go_loopw [3, 4] (fun sv mv wr => ∃ (m : Nat) (acc : List UInt8), m ≤ N ∧ mv = .int .i64 (m : Int) ∧ sv = txt acc ∧ NuI N m acc ∧ Kept [] w wr) (fun _ mv _ => (intOf mv).toNat + 1)
  case atStart => exact ⟨N, [], Nat.le_refl _, rfl, rfl, .inl ⟨rfl, rfl⟩, Kept.refl _ _⟩
  case round =>
    obtain ⟨m, acc, hm, rfl, rfl, hi, hk⟩ := hrel
    have HI := hx hi
    have HK := hx hk
    have HM := hx hm
    have hr : Int.tmod (m : Int) 10 = ((m % 10 : Nat) : Int) := by rw [Int.tmod_eq_emod_of_nonneg (by omega)]; omega
    have hq : Int.tdiv (m : Int) 10 = ((m / 10 : Nat) : Int) := by rw [Int.tdiv_eq_ediv_of_nonneg (by omega)]; omega
    have HC := hx (dig_toNat (d := m % 10) (Nat.mod_lt _ (by omega)))
    have HL := hx (fun hlt => hi.last hlt)
    have HR := hx (fun hge => hi.more hge)
    have hacc := hi.len (by have := HN.out; omega)
    obtain ⟨c, hc⟩ : ∃ c, c = UInt8.ofNat (48 + m % 10) := ⟨_, rfl⟩
    rw [← hc] at HC HR
    have HCC := hx hc
    have hcv := conv_one wr c (48 + (m : Int) % 10) (by have h := HC.out; omega)
    have HTA := hx (txt_add [c] acc)
    have hk0 : (0 : Int) ≤ (m : Int) % 10 := by omega
    have hw : wrap64 ((m : Int) / 10) = ((m / 10 : Nat) : Int) := by have h := HM.out; have h2 := HN.out; unfold wrap64; omega
    clear hi hk hm hc
    by_cases hlt : m < 10
    · have hm0 : ((m / 10 : Nat) : Int) = 0 := by omega
      have hN0 : ¬ (N : Int) < 0 := by omega
      go_wp2
      go_ret
      exact ⟨congrArg (fun x => Ending.returned (Value.string x)) (HTA.out.trans (by rw [HL.out hlt, HCC.out, show m % 10 = m by omega]; rfl)), HK.out.alloc _⟩
    · have hm0 : (((m / 10 : Nat) : Int) == 0) = false := by simp; omega
      go_wp2
      refine ⟨⟨m / 10, [c] ++ acc, by have h := HM.out; omega, by rw [hw], congrArg Value.string HTA.out, HR.out (by omega), HK.out.alloc _⟩, ?_⟩
      rw [hw]
      simp only [intOf]
      omega
end Go.Proofs.YtdfbofkdlgfblaaDoor
