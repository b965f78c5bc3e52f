/- The laws: any calls in any order; what room there may be. -/
import Derived.Test.YthcbacflopbkdaaTmU
import Derived.Test.YthcbacflopbkdaaTmW
namespace Go.Proofs.Ythcbacflopbkdaa
open Go Go.RowKit
set_option maxRecDepth 100000 in
set_option maxHeartbeats 3200000 in
theorem law_timer_plays (room : Int) (a : Option Addr) (len cap : Nat) (w : World) (hA : Ops w a len cap) :
    Calls Try.prog 4 #[.int .i64 room, .slice a len cap] w fun e w' => e = .returned (.bool true) ∧ Kept [] w w' := by
  have HA := hx hA
  clear hA
  go_enter Try.func4, Try.ntmps4
  go_wp2_with fail
  refine (tawake_any _).mono ?_
  rintro e w1 ⟨rfl, hk1⟩
  have HK1 := hx hk1
  have HP := hx (tplayed_any room a len cap w1 (HA.out.kept hk1))
  clear hk1
  go_wp2_with fail
  refine HP.out.mono ?_
  rintro e w2 hp
  rcases hp with ⟨rfl, hk2⟩ | ⟨_, _, q, v, now, no, h, s, b, n, c, rfl, hd, _⟩
  · have HK2 := hx ((HK1.out.trans0 hk2).alloc (.cells #[.int .i64 room, .int .i64 0, .slice none 0 0] 34))
    clear hk2 HK1 HP
    go_wp2_with fail
    go_ret
    exact ⟨rfl, HK2.out⟩
  · have HK2 := hx ((HK1.out.trans0 hd.k).alloc (.cells #[.int .i64 room, .int .i64 now, .slice b n c] 34))
    clear hd HK1 HP
    go_wp2_with fail
    go_ret
    exact ⟨rfl, HK2.out⟩
theorem zeroSetS (w : World) : (zeroValue 56).run Try.prog w = .ok (.agg #[.int .i64 0, .int .i64 0, .int .i64 0, .slice none 0 0]) w := by kernel_rfl
set_option maxHeartbeats 800000 in
theorem snew_any (room : Int) (w : World) (h1 : 1 ≤ room) (h2 : room ≤ 256) :
    Calls Try.prog 8 #[.int .i64 room] w fun e w' => e = .returned (.tuple #[.pointer (some ⟨w.heap.size, 0, none⟩), .int .i64 0]) ∧ Blk w' w.heap.size [.int .i64 room, .int .i64 0, .int .i64 0, .slice none 0 0] 56 ∧ Kept [] w w' := by
  have hz := zeroSetS
  have B := hx (Blk.new w [.int .i64 room, .int .i64 0, .int .i64 0, .slice none 0 0] 56)
  have K := hx ((Kept.refl [] w).alloc (.cells #[.int .i64 room, .int .i64 0, .int .i64 0, .slice none 0 0] 56))
  go_enter Try.func8, Try.ntmps8
  go_wp2
  go_ret2
  exact ⟨rfl, B.out, K.out⟩
set_option maxHeartbeats 800000 in
theorem snew_no (room : Int) (w : World) (h1 : room < 1 ∨ 256 < room) :
    Calls Try.prog 8 #[.int .i64 room] w fun e w' => e = .returned (.tuple #[.pointer none, .int .i64 1]) ∧ w = w' := by
  by_cases h : room < 1
  · clear h1
    go_enter Try.func8, Try.ntmps8
    go_wp2
    go_ret2
    exact ⟨rfl, rfl⟩
  · have h2 : 256 < room := by omega
    clear h1
    go_enter Try.func8, Try.ntmps8
    go_wp2
    go_ret2
    exact ⟨rfl, rfl⟩
set_option maxHeartbeats 800000 in
theorem slen_any (q : Nat) (room : Int) (w : World) (hb : Blk w q [.int .i64 room, .int .i64 0, .int .i64 0, .slice none 0 0] 56) :
    Calls Try.prog 9 #[.pointer (some ⟨q, 0, none⟩)] w fun e w' => e = .returned (.int .i64 0) ∧ w = w' := by
  have c3 := hb.cell (i := 3) rfl
  clear hb
  go_enter Try.func9, Try.ntmps9
  go_wp2
  go_ret
  exact ⟨rfl, rfl⟩
set_option maxHeartbeats 800000 in
theorem snow_any (q : Nat) (room : Int) (w : World) (hb : Blk w q [.int .i64 room, .int .i64 0, .int .i64 0, .slice none 0 0] 56) :
    Calls Try.prog 10 #[.pointer (some ⟨q, 0, none⟩)] w fun e w' => e = .returned (.int .i64 0) ∧ w = w' := by
  have c1 := hb.cell (i := 1) rfl
  clear hb
  go_enter Try.func10, Try.ntmps10
  go_wp2
  go_ret
  exact ⟨rfl, rfl⟩
set_option maxRecDepth 100000 in
set_option maxHeartbeats 3200000 in
theorem law_timer_rooms (room : Int) (w : World) :
    Calls Try.prog 3 #[.int .i64 room] w fun e w' => e = .returned (.bool true) ∧ Kept [] w w' := by
  by_cases h1 : room < 1
  · have HN := hx (fun w1 => snew_no room w1 (.inl h1))
    go_enter Try.func3, Try.ntmps3
    go_wp2_with fail
    refine (tawake_any _).mono ?_
    rintro e w1 ⟨rfl, hk1⟩
    have HK1 := hx hk1
    clear hk1
    go_wp2_with fail
    refine (HN.out _).mono ?_
    rintro e w2 ⟨rfl, rfl⟩
    go_wp2
    go_ret
    exact ⟨rfl, HK1.out⟩
  by_cases h2 : 256 < room
  · have HN := hx (fun w1 => snew_no room w1 (.inr h2))
    go_enter Try.func3, Try.ntmps3
    go_wp2_with fail
    refine (tawake_any _).mono ?_
    rintro e w1 ⟨rfl, hk1⟩
    have HK1 := hx hk1
    clear hk1
    go_wp2_with fail
    refine (HN.out _).mono ?_
    rintro e w2 ⟨rfl, rfl⟩
    go_wp2
    go_ret
    exact ⟨rfl, HK1.out⟩
  have HN := hx (fun w1 => snew_any room w1 (by omega) (by omega))
  go_enter Try.func3, Try.ntmps3
  go_wp2_with fail
  refine (tawake_any _).mono ?_
  rintro e w1 ⟨rfl, hk1⟩
  have HK1 := hx hk1
  clear hk1
  go_wp2_with fail
  refine (HN.out _).mono ?_
  rintro e w2 ⟨rfl, hb2, hk2⟩
  have HK2 := hx (HK1.out.trans0 hk2)
  have HL := hx (slen_any _ room w2 hb2)
  have HW := hx (snow_any _ room w2 hb2)
  clear hb2 hk2 HN HK1
  go_wp2_with (first | (go_at_call 9; refine HL.out.mono ?_; rintro e w3 ⟨rfl, rfl⟩) | (go_at_call 10; refine HW.out.mono ?_; rintro e w3 ⟨rfl, rfl⟩))
  go_ret
  exact ⟨rfl, HK2.out⟩
end Go.Proofs.Ythcbacflopbkdaa
