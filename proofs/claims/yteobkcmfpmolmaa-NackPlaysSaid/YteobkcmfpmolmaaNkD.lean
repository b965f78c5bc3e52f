/- nack: Tick. -/
import Derived.Test.YteobkcmfpmolmaaNkC
import Derived.Test.YteobkcmfpmolmaaTnH
namespace Go.Proofs.Yteobkcmfpmolmaa
open Go Go.RowKit Go.Shelf
variable {w w' : World} {p q mb n : Nat} {v v' : Value} {room now now' no no' asked full : Int} {h h' : List En} {f f' : Int → Int}
/-- One key that has come, in the loop: the tick's new start. -/
theorem Nk.asked1 (s : Nk w p q mb n v room now no asked full h f) : Nk (w.setCell ⟨p, 2, none⟩ (.int .i64 (asked + 1))) p q mb n v room now no (asked + 1) full h f ∧ KeptK w (w.setCell ⟨p, 2, none⟩ (.int .i64 (asked + 1))) p q mb v v := by
  have k : Kept [p] w (w.setCell ⟨p, 2, none⟩ (.int .i64 (asked + 1))) := (Kept.refl [p] _).setCell (p := ⟨p, 2, none⟩) (.inl (by simp)) _
  exact ⟨⟨s.hp.set 2 _, ⟨k.blk s.ts.hq (by simp [s.pq.symm]), own_ts s.ts.own k s.vp, s.ts.ne⟩, s.mp.kept k (by simp [s.pm.symm]), s.pq, s.pm, s.qm, s.vp, s.vm⟩, KeptK.of k (by simp)⟩
theorem nstart_new (k by' : Int) (w : World) (s : Nk w p q mb n v room now no asked full h f) (hb : h.length ≤ 1000000) (h0 : 0 ≤ now) (h1 : now ≤ 1099511627776) (hi : keyAt k h = none) (hr : h.length < room) (hn0 : 0 ≤ no) (hn1 : no ≤ 1000000000) (hb1 : 1 ≤ by') (hb2 : by' ≤ 4096) :
    Calls Try.prog 23 #[.pointer (some ⟨q, 0, none⟩), .int .u32 k, .int .i64 by'] w (fun e w' => e = .returned (.int .i64 0) ∧ ∃ v', KeptK w w' p q mb v v' ∧ Nk w' p q mb n v' room now (no + 1) asked full (h ++ [⟨k, now + by', no + 1⟩]) f) :=
  (tstart_any q v room now no k by' h w s.ts hb hn0 hn1 h0 h1).mono (by
    rintro e w2 ⟨v', no', h', hkT, hT, hor⟩
    rcases hor with ⟨hx, _⟩ | ⟨_, _, _, hge, _⟩ | ⟨_, _, _, hlt, rfl, rfl, rfl⟩ | ⟨_, _, i, hi2, _⟩
    · exfalso; omega
    · exfalso; omega
    · exact ⟨rfl, v', KeptK.ofT hkT, s.turn hkT hT⟩
    · rw [hi] at hi2; cases hi2)
end Go.Proofs.Yteobkcmfpmolmaa
