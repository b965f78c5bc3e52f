/- The ladder: its cells; find. -/
import Derived.Test.YtimplkdmhndalaaLtB
import Derived.Test.YtimplkdmhndalaaShp
namespace Go.Proofs.Ytimplkdmhndalaa
open Go Go.RowKit Go.Shelf
/-- A ladder. -/
structure Ld (w : World) (q : Nat) (v : Value) (g : Int) (h : List Ply) : Prop where
  hq : Blk w q [v, .int .i64 g] 52
  own : w.ownsRow 0 39 5 v h.length (cel h)
  ne : v.ownBlock ≠ some q
theorem Ld.kept {w w2 : World} {q : Nat} {v : Value} {g : Int} {h : List Ply} (s : Ld w q v g h) (hk : Kept [] w w2) : Ld w2 q v g h :=
  ⟨hk.blk s.hq (by simp), own_kept3 s.own (fun g cs _ hg => hk.block g (Array.getElem?_eq_some_iff.1 hg).1 (by simp)), s.ne⟩
set_option maxHeartbeats 800000 in
/-- find's question. -/
theorem pred_any (n : List UInt8) (B : Nat) (w : World) (hB : w.cell? ⟨B, 0, none⟩ = some (txt n)) :
    PredBelow Try.prog 32 #[.pointer (some ⟨B, 0, none⟩)] (fun x => .agg (enc5 x).toArray) (fun x => x.nm == n) w := fun W x hb => by
  have hlt := block_lt_of_cell hB
  have hc : W.cell? ⟨B, 0, none⟩ = some (txt n) := (hb.cell (p := ⟨B, 0, none⟩) hlt).trans hB
  have hBW : B < W.heap.size := Nat.lt_of_lt_of_le hlt hb.size
  have hne : B ≠ W.heap.size := by omega
  show Calls Try.prog 32 #[.agg #[txt x.nm, .int .i64 x.ma, .int .i64 x.wo, .int .i64 x.dr, .int .i64 x.lo], .pointer (some ⟨B, 0, none⟩)] W _
  have HB := hx hb
  clear hb hB hlt
  go_enter Try.func32, Try.ntmps32
  go_wp2
  go_ret
  exact ⟨rfl, HB.out.alloc HB.out.size _⟩
theorem idx_plAt (n : List UInt8) (h : List Ply) : Lib.idxBy (fun _ y => y.nm == n) h (default : Ply) = plV n h := by
  unfold Lib.idxBy
  have key : ∀ (h : List Ply) (m : Nat), Lib.idxByFrom (fun _ y => y.nm == n) (default : Ply) h m = match plAt n h with | some i => ((m + i : Nat) : Int) | none => -1 := by
    intro h
    induction h with
    | nil => intro m; rfl
    | cons y h ih =>
      intro m
      rw [Lib.idxByFrom, plAt]
      by_cases hy : y.nm = n
      · simp [hy]
      · rw [if_neg (by simpa using hy), if_neg hy, ih]
        cases plAt n h with
        | none => rfl
        | some i => show ((m + 1 + i : Nat) : Int) = ((m + (i + 1) : Nat) : Int); congr 1; omega
  rw [key h 0]
  unfold plV
  cases plAt n h with
  | none => rfl
  | some i => simp
theorem fi_some {n : List UInt8} {h : List Ply} {i : Nat} (e : plAt n h = some i) : plV n h = i := by unfold plV; rw [e]
theorem fi_none {n : List UInt8} {h : List Ply} (e : plAt n h = none) : plV n h = -1 := by unfold plV; rw [e]
set_option maxHeartbeats 1600000 in
theorem find_any (q : Nat) (v : Value) (g : Int) (n : List UInt8) (h : List Ply) (w : World) (s : Ld w q v g h) (hb : h.length ≤ 1000000) :
    Calls Try.prog 16 #[.pointer (some ⟨q, 0, none⟩), txt n] w fun e w' => e = .returned (.int .i64 (plV n h)) ∧ Kept [] w w' := by
  have c3 := s.hq.cell (i := 0) rfl
  have hlt := s.hq.lt
  have eg : ∀ args w, (callFunc 32 args).run Try.prog w = .ok (.enter 32 args) w := enters_of Try.func32 (by kernel_rfl) rfl
  have K1 := hx ((Kept.refl [] w).alloc (.cells #[txt n] 9))
  have hcon : ∃ a c, v = .slice a h.length c ∧ Hx (Calls Try.prog 31 #[.slice a h.length c, .func (.func 32) #[] #[.pointer (some ⟨w.heap.size, 0, none⟩)]] (w.alloc (.cells #[txt n] 9)) fun e w' => e = .returned (.int .i64 (plV n h)) ∧ Kept [] (w.alloc (.cells #[txt n] 9)) w') := by
    rcases s.own.2 with ⟨rfl, h0⟩ | ⟨gb, cap, cur, rfl, _, hg, hnc, _⟩
    · refine ⟨_, _, by rw [h0], ⟨?_⟩⟩
      have hn : h = [] := List.eq_nil_of_length_eq_zero h0
      subst hn
      exact idx_nil _ _
    · refine ⟨_, _, rfl, ⟨?_⟩⟩
      have ho := s.own
      have hcel := cel_cells ho
      have hgl := (Array.getElem?_eq_some_iff.1 hg).1
      refine (AnyQ.slices_IndexFunc lIdx 5 Try.isAgg39 Try.sizeOf39 enc5 (fun _ => rfl) (fun x => x.nm == n) 32 #[.pointer (some ⟨w.heap.size, 0, none⟩)] eg gb 0 h.length cap h (w.alloc (.cells #[txt n] 9)) (pred_any n w.heap.size _ ((Blk.new w [txt n] 9).cell (i := 0) rfl)) (Nat.le_refl _) (by omega) (by simp; omega) (fun j hj i v hv => kept_cell K1.out (hcel j hj i v hv))).mono ?_
      rintro e w' ⟨rfl, hb⟩
      refine ⟨?_, Kept.ofBelow hb⟩
      rw [List.take_length, idx_plAt]
  obtain ⟨a, c, rfl, HC⟩ := hcon
  generalize plV n h = r at *
  clear s hb eg
  go_enter Try.func16, Try.ntmps16
  go_wp2_with (go_at_call 31; refine HC.out.mono ?_; rintro e w' ⟨rfl, hk⟩; have K2 := hx (K1.out.trans0 hk); clear hk)
  go_ret
  exact ⟨rfl, K2.out⟩
end Go.Proofs.Ytimplkdmhndalaa
