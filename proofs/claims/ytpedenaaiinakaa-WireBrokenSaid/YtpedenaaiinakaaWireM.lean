import Derived.Test.YtpedenaaiinakaaCrcD
import Derived.Test.YtpedenaaiinakaaWirePl
namespace Go.Proofs.Ytpedenaaiinakaa
open Go Go.RowKit
theorem Bts.drop {w : World} {b off len cap : Nat} {l : List UInt8} (h : Bts w (Option.some ⟨b, off, none⟩) len cap l) (n : Nat) (hn : n ≤ l.length) : Bts w (Option.some ⟨b, off + n, none⟩) (len - n) (cap - n) (l.drop n) :=
  ⟨by rw [List.length_drop, h.hlen], by have := h.hle; omega, by have := h.htop; omega, fun e => by simp at e, fun i hi => by
    have hi' : n + i < l.length := by simp at hi; omega
    exact ⟨b, off + n, rfl, by have := h.at (n + i) hi'; rw [Nat.add_assoc]; simpa using this⟩⟩
theorem infoQ : (Try.prog.info? 39).map (·.size) = some 2 := by kernel_rfl
theorem zeroQ (w : World) : (zeroValue 39).run Try.prog w = .ok (.agg #[.int .i64 0, .int .i64 0]) w := by kernel_rfl
set_option maxHeartbeats 800000 in
theorem told_ne (a : Option Addr) (n c : Nat) (l : List UInt8) (w : World) (hl : Bts w a n c l) (h : ¬ n = 4) :
    Calls Try.prog 17 #[.slice a n c] w fun e w' => e = .returned (.agg #[.int .i64 0, .int .i64 0]) ∧ Kept [] w w' := by
  have hz := zeroQ
  have hb0 := Blk.new w [.int .i64 0, .int .i64 0] 39
  have hk0 : Kept [] w (w.alloc (.cells (#[.int .i64 0, .int .i64 0] : Array Value) 39)) := (Kept.refl _ _).alloc _
  have hne : ((n : Int) != 4) = true := by rw [bne_iff_ne]; omega
  clear h hl
  go_enter Try.func17, Try.ntmps17
  go_wp2
  exact bodyPost_ret (ret_blk rfl _ w.heap.size _ _ _ rfl hb0 Try.underlying39 rfl infoQ) rfl ⟨rfl, hk0⟩
set_option maxHeartbeats 400000 in
theorem told_four (a : Option Addr) (c : Nat) (l : List UInt8) (w : World) (hl : Bts w a 4 c l) :
    Calls Try.prog 17 #[.slice a 4 c] w fun e w' => e = .returned (.agg #[.int .i64 (IntKind.i16.wrap (beg (l.take 2) : Nat)), .int .i64 (beg (l.drop 2) : Nat)]) ∧ Kept [] w w' := by
  have hz := zeroQ
  have hlen := hl.hlen
  have hle := hl.hle
  have htop := hl.htop
  unfold maxLen at htop
  obtain ⟨b, off, rfl⟩ := hl.some (by omega)
  have hb0 := Blk.new w [.int .i64 0, .int .i64 0] 39
  have hk0 : Kept [] w (w.alloc (.cells (#[.int .i64 0, .int .i64 0] : Array Value) 39)) := (Kept.refl _ _).alloc _
  generalize hx : beg (l.take 2) = x
  generalize hy : beg (l.drop 2) = y
  have hx2 : x < 65536 := by have := beg_lt (l.take 2); rw [hx, List.length_take, ← hlen] at this; simpa using this
  have hy2 : y < 65536 := by have := beg_lt (l.drop 2); rw [hy, List.length_drop, ← hlen] at this; simpa using this
  have uy : IntKind.i64.wrap (y : Int) = (y : Int) := by rw [IntKind.wrap_i64]; omega
  have ux : IntKind.i64.wrap (IntKind.i16.wrap (x : Int)) = IntKind.i16.wrap (x : Int) := by
    simp only [IntKind.wrap, IntKind.bits, IntKind.signed]
    simp
    omega
  have hi0 : (2 : Int) ≤ (c : Int) := by omega
  have hi1 : (4 : Int) ≤ (c : Int) := by omega
  have hx' := Lib.hid hx
  have hy' := Lib.hid hy
  have hl' := Lib.hid hl
  have hlen' := Lib.hid hlen
  clear hx hy hl hlen
  have H1 : ∀ w', Kept [] w w' → Calls Try.prog 31 #[.slice (some ⟨b, off, none⟩) 2 c] w' fun e w'' => e = .returned (.int .u64 (x : Nat)) ∧ w' = w'' := fun w' hk =>
    get_x _ _ _ (l.take 2) x _ (Bts.take (hl'.out.kept hk) 2 (by have := hlen'.out; omega)) (by simp; omega) hx'.out
  have H2 : ∀ w', Kept [] w w' → Calls Try.prog 31 #[.slice (some ⟨b, off + 2, none⟩) 2 (c - 2)] w' fun e w'' => e = .returned (.int .u64 (y : Nat)) ∧ w' = w'' := fun w' hk =>
    get_x _ _ _ (l.drop 2) y _ (Bts.drop (hl'.out.kept hk) 2 (by have := hlen'.out; omega)) (by simp; have := hlen'.out; omega) hy'.out
  have H1' := Lib.hid H1
  have H2' := Lib.hid H2
  clear H1 H2
  go_enter Try.func17, Try.ntmps17
  go_wp2_with fail
  have hSS := hk0
  clear hk0
  go_region_held3 (fun w' => Kept [] w w') (first | exact hSS | (repeat (first | exact Kept.refl _ _ | apply Kept.drew | apply Kept.alloc | (refine Kept.setCell ?_ (.inr (by simp)) _))))
    (first | (go_at_call 31; (with_reducible refine (H1'.out _ ?_).mono ?_); (first | exact hSS | exact hSS.drew); rintro e w' ⟨rfl, rfl⟩) | (go_at_call 31; (with_reducible refine (H2'.out _ ?_).mono ?_); (first | exact hSS | exact hSS.drew); rintro e w' ⟨rfl, rfl⟩))
  all_goals
    go_wp2
    exact bodyPost_ret (ret_blk rfl _ w.heap.size _ _ _ rfl (Blk.new w [.int .i64 (IntKind.i16.wrap (x : Int)), .int .i64 y] 39).drew Try.underlying39 rfl infoQ) rfl ⟨rfl, ((Kept.refl _ _).alloc _).drew⟩
end Go.Proofs.Ytpedenaaiinakaa
