import Derived.Test.YtpedenaaiinakaaWireK
namespace Go.Proofs.Ytpedenaaiinakaa
open Go Go.RowKit
def clampI (lo hi x : Int) : Int := max lo (min x (max lo hi))
theorem clamp_any (x lo hi : Int) (w : World) :
    Calls Try.prog 30 #[.int .i64 x, .int .i64 lo, .int .i64 hi] w fun e w' => e = .returned (.int .i64 (clampI lo hi x)) ∧ w = w' := by
  go_enter Try.func30, Try.ntmps30
  go_wp2
  all_goals
    go_ret
    refine ⟨ret_int ?_, rfl⟩
    unfold clampI
    (repeat' split at *) <;> omega
def qA (a : Int) : Nat := (clampI (-32768) 32767 a % 65536).toNat
def qL (l : Int) : Nat := (clampI 0 65535 l).toNat
def qB (a l : Int) : List UInt8 := byts (qA a) 2 ++ byts (qL l) 2
set_option maxHeartbeats 800000 in
theorem qbytes_any (a l : Int) (w : World) :
    Calls Try.prog 16 #[.agg #[.int .i64 a, .int .i64 l]] w fun e w' => ∃ v, e = .returned v ∧ OwnB w' w.heap.size v 4 (qB a l) ∧ Kept [] w w' := by
  have hb := Blk.new w [.int .i64 a, .int .i64 l] 39
  have c1 := hb.cell (show ([.int .i64 a, .int .i64 l] : List Value)[0]? = some (.int .i64 a) from rfl)
  have c2 := hb.cell (show ([.int .i64 a, .int .i64 l] : List Value)[1]? = some (.int .i64 l) from rfl)
  have hk0 : Kept [] w (w.alloc (.cells (#[.int .i64 a, .int .i64 l] : Array Value) 39)) := (Kept.refl _ _).alloc _
  have ua : IntKind.u16.wrap (clampI (-32768) 32767 a) = (qA a : Int) := by rw [IntKind.wrap_u16]; unfold qA; omega
  have ul : IntKind.u16.wrap (clampI 0 65535 l) = (qL l : Int) := by rw [IntKind.wrap_u16]; unfold qL clampI; omega
  have hs : w.heap.size ≤ (w.alloc (.cells (#[.int .i64 a, .int .i64 l] : Array Value) 39)).heap.size := by simp
  clear hb
  go_enter Try.func16, Try.ntmps16
  go_wp2_with fail
  refine (clamp_any _ _ _ _).mono ?_
  rintro e w1 ⟨rfl, rfl⟩
  go_wp2_with fail
  refine (clamp_any _ _ _ _).mono ?_
  rintro e w1 ⟨rfl, rfl⟩
  go_wp2_with fail
  refine (put16I _ 0 [] (qA a) w.heap.size _ _ (World.ownsRow_nil _ _ _ 1) rfl hs (by omega)).mono ?_
  rintro e w1 ⟨v1, rfl, o1, hk1⟩
  go_wp2_with fail
  refine (put16I _ 2 _ (qL l) w.heap.size _ _ o1 rfl (Nat.le_trans hs hk1.size) (by omega)).mono ?_
  rintro e w2 ⟨v2, rfl, o2, hk2⟩
  go_wp2
  go_ret
  exact ⟨v2, rfl, by simpa [qB] using o2, (hk0.trans0 hk1).trans0 hk2⟩
end Go.Proofs.Ytpedenaaiinakaa
