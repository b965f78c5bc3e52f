import Derived.Test.YtpedenaaiinakaaWireH
import Derived.Test.YtpedenaaiinakaaOpen
import Derived.ChangeSlices
namespace Go.Proofs.Ytpedenaaiinakaa
open Go Go.RowKit Go.ChangeShapes Go.WideShapes
attribute [local go_sem ↓] exec_Dg
attribute [local go_sem] goodPtr_at rowAt_at
theorem bts_none (w : World) : Bts w none 0 0 [] := ⟨rfl, Nat.le_refl _, Nat.zero_le _, fun _ => rfl, fun i hi => absurd hi (by simp)⟩
def dg7 : Dg := { kind := 7, sess := 0, seq := 0, path := 0, tick := 0, a := 0, b := 0, k := 0, m := 0, index := 0, data := [] }
theorem dg7_fits : DgFits dg7 := by constructor <;> simp [dg7]
theorem dg7_chk : chk dg7 = 0 := by decide
set_option maxHeartbeats 1600000 in
theorem wawake_any (w : World) : Calls Try.prog 9 #[] w fun e w' => e = .returned (.bool true) ∧ Kept [] w w' := by
  go_enter Try.func9, Try.ntmps9
  go_wp2_with fail
  refine (new_any _).mono ?_
  rintro e w1 ⟨rfl, ht, hk⟩
  go_wp2_with fail
  refine (encode_good w.heap.size dg7 none 0 0 w1 (bts_none _) dg7_fits dg7_chk ht).mono ?_
  rintro e w2 ⟨v, rfl, ho, hk2⟩
  obtain ⟨a, c, rfl, hb⟩ := ho.bts
  have hkk := hk.trans0 hk2
  clear ho hb ht hk hk2
  go_wp2
  go_ret
  exact ⟨rfl, hkk⟩
set_option maxHeartbeats 800000 in
theorem size_any (d : Dg) (p : Option Addr) (n c : Nat) (w : World) (hd : Bts w p n c d.data) (hn : n ≤ 100000) :
    Calls Try.prog 15 #[.agg (dgl d p c).toArray] w fun e w' => e = .returned (.int .i64 ((33 + n : Nat) : Int)) ∧ Kept [] w w' := by
  obtain rfl := hd.hlen
  have hle := hd.hle
  have htop := hd.htop
  unfold maxLen at htop
  have hb := Blk.new w (dgl d p c) 25
  have c1 := hb.cell (show (dgl d p c)[10]? = some (.slice p d.data.length c) from rfl)
  have hk0 : Kept [] w (w.alloc (.cells (dgl d p c).toArray 25)) := (Kept.refl _ _).alloc _
  clear hb hd
  go_enter Try.func15, Try.ntmps15
  go_wp2
  go_ret
  exact ⟨by rw [show ((33 + d.data.length : Nat) : Int) = 29 + (d.data.length : Int) + 4 by omega]; rfl, hk0⟩
theorem len_sealed (d : Dg) : (sealed (plainL d)).length = 33 + d.data.length := by
  unfold sealed plainL
  simp [headL_len, le4]
  omega
theorem byte_of {H : Type} {enc : TypeId × Value → H} {w : World} {base : Nat} {held : Bool} {fuel : Nat} {v : Value} {x : DataW H × List MemPlace} (h : DataW.trod enc Try.prog w base (fun _ => true) held fuel 23 [v] = some x) : ∃ a n c l, v = .slice a n c ∧ Bts w a n c l := by
  rcases open_ints Try.underlying23 Try.underlying5 (by kernel_rfl) h with ⟨h1, _⟩ | ⟨a, len, cap, zs, h1, _, hl, hm, hz, _, hc, hw⟩
  · exact ⟨none, 0, 0, [], by simpa using h1, bts_none _⟩
  · obtain ⟨l, hb⟩ := bts_of (w := w) (a := some a) (len := len) (cap := cap) (zs := zs) (.inr ⟨a, rfl, hl, hm, by simpa using hz, hc, hw⟩)
    exact ⟨some a, len, cap, l, by simpa using h1, hb⟩
end Go.Proofs.Ytpedenaaiinakaa
