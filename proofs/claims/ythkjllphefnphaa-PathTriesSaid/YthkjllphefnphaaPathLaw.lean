import Derived.Test.YthkjllphefnphaaPathPl
import Derived.Test.YthkjllphefnphaaPathAw
namespace Go.Proofs.Ythkjllphefnphaa
open Go Go.RowKit
set_option maxRecDepth 100000 in
set_option maxHeartbeats 3200000 in
theorem law_plays (a : Option Addr) (len cap : Nat) (w : World) (hA : Acts w a len cap) :
    Calls Try.prog 3 #[.slice a len cap] w fun e w' => e = .returned (.bool true) ∧ Kept [] w w' := by
  obtain ⟨Z, hZ, hz⟩ := zeroPa'
  obtain ⟨Y, hY, hy⟩ := zeroRp'
  have HA := hx hA
  have HZ := hx hZ
  have HY := hx hY
  clear hA hZ hY
  go_enter Try.func3, Try.ntmps3
  go_wp2_with fail
  refine (pawake_any _).mono ?_
  rintro e w1 ⟨rfl, hk1⟩
  have HK1 := hx hk1
  have HP := hx (played_any a len cap w1 (HA.out.kept hk1))
  clear hk1
  go_wp2_with fail
  refine HP.out.mono ?_
  rintro e w2 ⟨p, rfl, hok, hg, hk2⟩
  have HK2 := hx (HK1.out.trans0 hk2)
  have HM := hx (show w.heap.size ≤ w2.heap.size from HK2.out.size)
  clear hk2 HP hok hg HK1
  have hbz := hx (show Blk ((w2.alloc (.cells Z 31)).alloc (.cells Y 37)) w2.heap.size (pac pa0) 31 by
    have h := (Blk.new' w2 Z 31).alloc (.cells Y 37)
    rw [HZ.out] at h
    exact h)
  have hby := hx (show Blk ((w2.alloc (.cells Z 31)).alloc (.cells Y 37)) (w2.heap.size + 1) (rpc pa0) 37 by
    have h := Blk.new' (w2.alloc (.cells Z 31)) Y 37
    rw [HY.out, show (w2.alloc (.cells Z 31)).heap.size = w2.heap.size + 1 by simp] at h
    exact h)
  have K3 := hx ((HK2.out.alloc (.cells Z 31)).alloc (.cells Y 37))
  go_wp2_with (first
    | (refine store_blk rfl 31 (.tmp 3) (.tmp 11) rfl w2.heap.size rfl 31 _ _ rfl hbz.out rfl (infoPan _) (pac_one _) ?_
       intro w4 hb4 hk4
       have HB4 := hx (hk4.blk hby.out (by simp))
       have K4 := hx (Kept.behind K3.out hk4 HM.out)
       clear hb4 hk4 hbz hby K3)
    | (refine store_blk rfl 37 (.tmp 4) (.tmp 12) rfl (w2.heap.size + 1) rfl 37 _ _ rfl HB4.out (rpc_len2 _ _) (infoRpn _) (rpc_one _) ?_
       intro w5 hb5 hk5
       have K5 := hx (Kept.behind K4.out hk5 (by have := HM.out; omega))
       clear hb5 hk5 HB4 K4))
  go_ret
  exact ⟨rfl, K5.out⟩
end Go.Proofs.Ythkjllphefnphaa
