import Derived.Test.YtgdofgckjkmhjaaFlo
import Derived.Test.YtgdofgckjkmhjaaPart
import Derived.Test.YtgdofgckjkmhjaaPathP
namespace Go.Proofs.Ytgdofgckjkmhjaa
open Go Go.RowKit
def stc (s : St) : List Value := [.int .i64 s.loss, .int .i64 s.rtt, .int .i64 s.var, .int .i64 s.marks, .int .i64 s.trips]
theorem tow_flo (n to share : Int) : n + flo (to - n) share = tow n to share := rfl
set_option maxHeartbeats 400000 in
theorem toward_any (n to share : Int) (w : World) (h0 : 0 ≤ n) (h1 : n ≤ 65535) (h2 : 0 ≤ to) (h3 : to ≤ 65535) (hs : share = 16 ∨ share = 8 ∨ share = 4) :
    Calls Try.prog 47 #[.int .i64 n, .int .i64 to, .int .i64 share] w fun e w' => e = .returned (.int .i64 (tow n to share)) ∧ w = w' := by
  have hb := tow_bd n to share 0 65535 h0 h1 h2 h3 hs
  have hT := Lib.hid (tow_flo n to share)
  have hF := Lib.hid (fun w => floor_any (to - n) share w ⟨by omega, by omega⟩ (by omega) (by omega))
  rw [← tow_flo] at hb
  generalize flo (to - n) share = f at *
  clear hs
  go_enter Try.func47, Try.ntmps47
  go_wp2_with fail
  refine (hF.out _).mono ?_
  rintro e w1 ⟨rfl, rfl⟩
  go_wp2
  go_ret
  exact ⟨by rw [← hT.out]; rfl, rfl⟩
set_option maxHeartbeats 800000 in
theorem mark_any (b o : Nat) (xs : List Value) (T : TypeId) (s : St) (m : Bool) (w : World) (hb : Blk w b xs T) (hp : Part xs o (stc s)) (hs : StOk s 1000000) :
    Calls Try.prog 37 #[.pointer (some ⟨b, o, none⟩), .bool m] w fun e w' => e = .returned (.tuple #[]) ∧ Blk w' b (setAll xs o (stc (markS s m))) T ∧ Kept [b] w w' := by
  have c0 := hb.part hp 0 _ rfl
  have c3 := hb.part hp 3 _ rfl
  have hf := hb.free
  have hb' : Blk w b (setAll xs o (stc s)) T := by rw [hp.self]; exact hb
  have r1 := hb'.setp hp rfl 0 (.int .i64 (tow s.loss (if m then 65535 else 0) 16)) (by simp [stc])
  have r2 := r1.setp hp (by simp) 3 (.int .i64 (s.marks + 1)) (by simp [stc])
  have R2 := Lib.hid r2
  have hk : Kept [b] w ((w.setCell ⟨b, o + 0, none⟩ (.int .i64 (tow s.loss (if m then 65535 else 0) 16))).setCell ⟨b, o + 3, none⟩ (.int .i64 (s.marks + 1))) := ((Kept.refl _ _).setCell (.inl (by simp)) _).setCell (.inl (by simp)) _
  have HK := Lib.hid hk
  rw [Nat.add_zero] at c0
  obtain ⟨⟨l1, l2⟩, _, _, ⟨m1, m2⟩, _⟩ := hs
  have HT := Lib.hid (fun w to (h2 : 0 ≤ to) (h3 : to ≤ 65535) => toward_any s.loss to 16 w l1 l2 h2 h3 (by omega))
  clear hb hp hb' r1 r2 hk
  cases m
  · go_enter Try.func37, Try.ntmps37
    go_wp2_with fail
    refine (HT.out _ 0 (by omega) (by omega)).mono ?_
    rintro e w1 ⟨rfl, rfl⟩
    go_wp2
    go_end0
    exact ⟨rfl, R2.out, HK.out⟩
  · go_enter Try.func37, Try.ntmps37
    go_wp2_with fail
    refine (HT.out _ 65535 (by omega) (by omega)).mono ?_
    rintro e w1 ⟨rfl, rfl⟩
    go_wp2
    go_end0
    exact ⟨rfl, R2.out, HK.out⟩
end Go.Proofs.Ytgdofgckjkmhjaa
