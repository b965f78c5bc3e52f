/- The law: any calls in any order. -/
import Derived.Test.YthpdoekeooedfaaPrioPl
namespace Go.Proofs.Ythpdoekeooedfaa
open Go Go.RowKit
set_option maxRecDepth 100000 in
set_option maxHeartbeats 3200000 in
theorem law_prio_plays (room : Int) (a : Option Addr) (len cap : Nat) (w : World) (hA : Ops w a len cap) :
    Calls Try.prog 5 #[.int .i64 room, .slice a len cap] w fun e w' => e = .returned (.bool true) ∧ Kept [] w w' := by
  have HA := hx hA
  clear hA
  go_enter Try.func5, Try.ntmps5
  go_wp2_with fail
  refine (qawake_any _).mono ?_
  rintro e w1 ⟨rfl, hk1⟩
  have HK1 := hx hk1
  have HP := hx (played_any room a len cap w1 (HA.out.kept hk1))
  clear hk1
  go_wp2_with fail
  refine HP.out.mono ?_
  rintro e w2 hp
  rcases hp with ⟨rfl, hk2⟩ | ⟨_, _, q, v, T, h, s, b, n, c, rfl, hd, _, _⟩
  · have HK2 := hx ((HK1.out.trans0 hk2).alloc (.cells #[.int .i64 room, .slice none 0 0] 41))
    clear hk2 HK1 HP
    go_wp2_with fail
    go_ret
    exact ⟨rfl, HK2.out⟩
  · have HK2 := hx ((HK1.out.trans0 hd.qw.kept).alloc (.cells #[.int .i64 room, .slice b n c] 41))
    clear hd HK1 HP
    go_wp2_with fail
    go_ret
    exact ⟨rfl, HK2.out⟩
end Go.Proofs.Ythpdoekeooedfaa
