/- The sender's order of ways; New, Waiting, Heard. -/
import Derived.Test.YtgdofgckjkmhjaaMpS
namespace Go.Proofs.Ytgdofgckjkmhjaa.Mp
open Go Go.RowKit
theorem own_le {w : World} {base b2 size n : Nat} {e : TypeId} {v : Value} {xs : List Value} (h : w.ownsRow base e size v n xs) (hb : b2 ≤ base) : w.ownsRow b2 e size v n xs := by
  refine ⟨h.1, ?_⟩
  rcases h.2 with hn | ⟨g, cap, cur, rfl, hg, rest⟩
  · exact .inl hn
  · exact .inr ⟨g, cap, cur, rfl, by omega, rest⟩
def ptrs (s i : Nat) : List Value := tab i fun k => .pointer (some ⟨s, k * 15, none⟩)
theorem ptrs_succ (s i : Nat) : ptrs s (i + 1) = ptrs s i ++ [.pointer (some ⟨s, i * 15, none⟩)] := by
  unfold ptrs tab
  rw [List.range_succ, List.map_append]
  rfl
theorem infoPtr : (Try.prog.info? 84).map (fun i => (i.zero, i.size, i.bytes)) = some (some (.pointer none), 1, 8) := by kernel_rfl
theorem one_ptr (s i : Nat) : ∀ u ∈ [Value.pointer (some ⟨s, i * 15, none⟩)], u.oneCell' = true := by
  intro u hu
  simp only [List.mem_cons, List.not_mem_nil, or_false] at hu
  subst hu
  rfl
theorem newsP {w : World} {g : Nat} {xs : List Value} {T : TypeId} (h : Blk w g xs T) : ∀ ad, some (⟨g, 0, none⟩ : Addr) = some ad → ∀ j u, xs[j]? = some u → w.cell? (ad.add j) = some u := by
  intro ad he j u hj
  simp only [Option.some.injEq] at he
  subst he
  rw [Addr.add_mid, Nat.zero_add]
  exact h.cell hj
theorem own_ptrs {w : World} {base s : Nat} {T : TypeId} {v : Value} (h : w.ownsRow base T 1 v 2 (ptrs s 2)) : ∃ a c, v = .slice a 2 c ∧ Ptrs w a 2 s := by
  rcases h.2 with ⟨_, hn⟩ | ⟨g, cap, cur, rfl, _, hg, hn, hc, hs, ht⟩
  · omega
  · refine ⟨_, _, rfl, fun i hi => ⟨g, rfl, ?_⟩⟩
    have hB : Blk w g cur.toList T := hg
    refine hB.cell ?_
    have h2 : (cur.toList.take (2 * 1))[i]? = (ptrs s 2)[i]? := by rw [ht]
    rw [List.getElem?_take_of_lt (by omega)] at h2
    rw [h2]
    unfold ptrs
    rw [tab_get hi]
set_option maxRecDepth 100000 in
set_option maxHeartbeats 3200000 in
theorem order_m (s b q : Nat) (v : Value) (m : Ms) (k t : Int) (w : World) (r : Sr w s b q v m) (o : Ok m k t) (hk : 65 * k ≤ 1000000) :
    Calls Try.prog 31 #[.pointer (some ⟨s, 0, none⟩)] w fun e w' => ∃ u, e = .returned u ∧ w'.ownsRow w.heap.size 3 1 u 2 (ints (ordM m)) ∧ Kept [] w w' := by
  have HO := hx (fun (W : World) (a : Option Addr) (c : Nat) (hk2 : Kept [] w W) (hp : Ptrs W a 2 s) => order_any a 2 c s _ _ _ W hp ((r.ways o hk).kept hk2) (by omega))
  go_enter Try.func31, Try.ntmps31
  go_wp2
  go_loopw [5, 3] (fun s5 s3 wr => ∃ i : Nat, s5 = .int .i64 (i : Int) ∧ i ≤ 2 ∧ wr.ownsRow w.heap.size 84 1 s3 i (ptrs s i) ∧ Hx (Kept [] w wr)) (fun s5 _ _ => 2 - (intOf s5).toNat)
  case atStart => exact ⟨0, rfl, by omega, World.ownsRow_nil _ _ _ _, hx (Kept.refl _ _)⟩
  case round =>
    obtain ⟨i, rfl, hi, hown, HK⟩ := hrel
    by_cases hlt : i < 2
    · have hl : (i : Int) < 2 := by omega
      have OWN := hx hown
      have HB := hx (Blk.new wr [.pointer (some ⟨s, i * 15, none⟩)] 84)
      have HA := hx ((Kept.refl [] wr).alloc (.cells #[.pointer (some ⟨s, i * 15, none⟩)] 84))
      have HLT := hx hlt
      clear hown hi
      go_wp2_with (refine wpList_app rfl (.tmp 8) (.tmp 14) 91 rfl w.heap.size 84 (.pointer none) 1 8 infoPtr Try.underlying91 rfl (by omega) _ i (ptrs s i) rfl (Qd.own_kept3 OWN.out (fun g cs _ hg => HA.out.block g (Array.getElem?_eq_some_iff.1 hg).1 (by simp))) (some ⟨wr.heap.size, 0, none⟩) 1 1 [.pointer (some ⟨s, i * 15, none⟩)] rfl rfl (by simp) (by omega) (newsP HB.out) (one_ptr s i) (by unfold maxLen; omega) (by omega) (Nat.le_trans HK.out.size HA.out.size) ?_; intro v5 w5 ho5 hg5; have HO5 := hx ho5; have HG5 := hx hg5; clear ho5 hg5)
      go_roundw
      case rel => exact ⟨i + 1, by push_cast; rfl, by have := HLT.out; omega, by rw [ptrs_succ]; exact HO5.out, hx ((HK.out.trans0 HA.out).grown HG5.out (fun g hg => .inr (OWN.out.lt g hg).1))⟩
      case measure =>
        simp only [intOf]
        have := HLT.out
        omega
    · obtain rfl : i = 2 := by omega
      obtain ⟨a, c, rfl, hp⟩ := own_ptrs hown
      have HP := hx hp
      have HC := hx (HO.out wr a c HK.out hp)
      clear hown hp HO hi hlt
      go_wp2_with (go_at_call 43; refine HC.out.mono ?_; rintro e w6 ⟨u, l, rfl, hs, ho, hk6⟩; have HS := hx hs; have HO6 := hx ho; have HK6 := hx hk6; clear hs ho hk6)
      go_ret
      refine ⟨_, rfl, ?_, HK.out.trans0 HK6.out⟩
      rw [← srt_ord m l HS.out]
      exact own_le HO6.out HK.out.size
end Go.Proofs.Ytgdofgckjkmhjaa.Mp
