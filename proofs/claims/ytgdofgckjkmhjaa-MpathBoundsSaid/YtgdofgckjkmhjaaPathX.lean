import Derived.Test.YtgdofgckjkmhjaaPathW
namespace Go.Proofs.Ytgdofgckjkmhjaa
open Go Go.RowKit
set_option maxHeartbeats 400000 in
theorem number_any (b o : Nat) (xs : List Value) (T : TypeId) (p : Pa) (w : World) (hb : Blk w b xs T) (hp : Part xs o (pac p)) (hn : p.next < 4294967296) :
    Calls Try.prog 34 #[.pointer (some ⟨b, o, none⟩)] w fun e w' => e = .returned (.int .u32 p.next) ∧ Blk w' b (setAll xs o (pac { p with next := nextU p.next })) T ∧ Kept [b] w w' := by
  have c14 := hb.part hp 14 _ rfl
  have hf := hb.free
  have hb' : Blk w b (setAll xs o (pac p)) T := by rw [hp.self]; exact hb
  have E := hx (show Blk _ b (setAll xs o (pac { p with next := nextU p.next })) T from Blk.pnext (s := p.s) (sn := p.seen) (q := p.quiet) (r := p.probe) (g := p.gap) (n := p.next) hb' hp (nextU p.next))
  have K := hx ((Kept.refl [b] w).setCell (p := ⟨b, o + 14, none⟩) (.inl (by simp)) (.int .u32 (nextU p.next)))
  have hN := hx (show (((p.next : Int) + 1) % 4294967296 : Int) = ((nextU p.next : Nat) : Int) by unfold nextU; omega)
  clear hb hp hb'
  go_enter Try.func34, Try.ntmps34
  go_wp2
  go_ret
  have h := hN.out
  refine ⟨rfl, ?_, ?_⟩
  · have e := E.out
    rw [← h] at e
    exact e
  · have e := K.out
    rw [← h] at e
    exact e
end Go.Proofs.Ytgdofgckjkmhjaa
