/- The timer: its cells, New, Len, Now, find. -/
import Derived.Test.YteobkcmfpmolmaaTnA
import Derived.Test.YteobkcmfpmolmaaApg
import Derived.Test.YteobkcmfpmolmaaShn
namespace Go.Proofs.Yteobkcmfpmolmaa
open Go Go.RowKit Go.Shelf
theorem kept_cell {w w' : World} {p : Addr} {v : Value} (hk : Kept [] w w') (h : w.cell? p = some v) : w'.cell? p = some v := by
  rw [hk.cell (block_lt_of_cell h) (by simp)]; exact h
def cel (h : List En) : List Value := h.flatMap enc3
theorem cel_len (h : List En) : (cel h).length = h.length * 3 := by
  induction h with
  | nil => rfl
  | cons x l ih => rw [cel, List.flatMap_cons, List.length_append, ← cel, ih]; simp [enc3]; omega
theorem cel_snoc (h : List En) (x : En) : cel (h ++ [x]) = cel h ++ enc3 x := by simp [cel]
theorem cel_at (l : List En) : ∀ i, i < l.length → ∀ k, k < 3 → (cel l)[i * 3 + k]? = (enc3 (l.getD i en0))[k]? := by
  induction l with
  | nil => intro i hi; simp at hi
  | cons x l ih =>
    intro i hi k hk
    have e : cel (x :: l) = enc3 x ++ cel l := rfl
    rw [e]
    cases i with
    | zero => rw [Nat.zero_mul, Nat.zero_add, List.getElem?_append_left (by simp [enc3]; omega)]; rfl
    | succ i =>
      rw [List.getElem?_append_right (by simp [enc3]; omega)]
      have h := ih i (by simpa using hi) k hk
      rw [show (enc3 x).length = 3 from rfl, show (i + 1) * 3 + k - 3 = i * 3 + k by omega, h]
      rfl
theorem cel_one (h : List En) : ∀ u ∈ cel h, u.oneCell' = true := by
  intro u hu
  simp only [cel, List.mem_flatMap, enc3, List.mem_cons, List.not_mem_nil, or_false] at hu
  obtain ⟨x, _, rfl | rfl | rfl⟩ := hu <;> rfl
/-- A set of keys. -/
structure Ts (w : World) (q : Nat) (v : Value) (room now no : Int) (h : List En) : Prop where
  hq : Blk w q [.int .i64 room, .int .i64 now, .int .i64 no, v] 81
  own : w.ownsRow 0 78 3 v h.length (cel h)
  ne : v.ownBlock ≠ some q
theorem Ts.new {w : World} {q : Nat} {room : Int} (hb : Blk w q [.int .i64 room, .int .i64 0, .int .i64 0, .slice none 0 0] 81) : Ts w q (.slice none 0 0) room 0 0 [] :=
  ⟨hb, World.ownsRow_nil _ _ _ 3, by simp [Value.ownBlock]⟩
theorem own_slice {w : World} {base size : Nat} {e : TypeId} {v : Value} {n : Nat} {xs : List Value} (h : w.ownsRow base e size v n xs) : ∃ a c, v = .slice a n c := by
  rcases h.2 with ⟨rfl, rfl⟩ | ⟨g, cap, cur, rfl, _⟩
  · exact ⟨_, _, rfl⟩
  · exact ⟨_, _, rfl⟩
theorem own_kept3 {w w2 : World} {base size : Nat} {e : TypeId} {v : Value} {n : Nat} {xs : List Value} (h : w.ownsRow base e size v n xs) (hk : ∀ g cs, v.ownBlock = some g → w.heap[g]? = some (.cells cs e (0, 0)) → w2.heap[g]? = w.heap[g]?) : w2.ownsRow base e size v n xs := by
  refine ⟨h.1, ?_⟩
  rcases h.2 with hn | ⟨g, cap, cur, rfl, hb, hg, rest⟩
  · exact .inl hn
  · exact .inr ⟨g, cap, cur, rfl, hb, (hk g cur rfl hg).trans hg, rest⟩
theorem Ts.kept {w w2 : World} {q : Nat} {v : Value} {room now no : Int} {h : List En} (s : Ts w q v room now no h) (hk : Kept [] w w2) : Ts w2 q v room now no h :=
  ⟨hk.blk s.hq (by simp), own_kept3 s.own (fun g cs _ hg => hk.block g (Array.getElem?_eq_some_iff.1 hg).1 (by simp)), s.ne⟩
set_option maxHeartbeats 800000 in
theorem tlen_any (q : Nat) (v : Value) (room now no : Int) (h : List En) (w : World) (s : Ts w q v room now no h) :
    Calls Try.prog 26 #[.pointer (some ⟨q, 0, none⟩)] w fun e w' => e = .returned (.int .i64 h.length) ∧ w = w' := by
  have c3 := s.hq.cell (i := 3) rfl
  obtain ⟨a, c, rfl⟩ := own_slice s.own
  clear s
  go_enter Try.func26, Try.ntmps26
  go_wp2
  go_ret
  exact ⟨rfl, rfl⟩
theorem zeroSet (w : World) : (zeroValue 81).run Try.prog w = .ok (.agg #[.int .i64 0, .int .i64 0, .int .i64 0, .slice none 0 0]) w := by kernel_rfl
set_option maxHeartbeats 800000 in
theorem tnew_any (room : Int) (w : World) (h1 : 1 ≤ room) (h2 : room ≤ 256) :
    Calls Try.prog 28 #[.int .i64 room] w fun e w' => e = .returned (.tuple #[.pointer (some ⟨w.heap.size, 0, none⟩), .int .i64 0]) ∧ Ts w' w.heap.size (.slice none 0 0) room 0 0 [] ∧ Kept [] w w' := by
  have hz := zeroSet
  have B := hx (Blk.new w [.int .i64 room, .int .i64 0, .int .i64 0, .slice none 0 0] 81)
  have K := hx ((Kept.refl [] w).alloc (.cells #[.int .i64 room, .int .i64 0, .int .i64 0, .slice none 0 0] 81))
  go_enter Try.func28, Try.ntmps28
  go_wp2
  go_ret2
  exact ⟨rfl, Ts.new B.out, K.out⟩
set_option maxHeartbeats 800000 in
/-- find's question. -/
theorem pred_any (k : Int) (B : Nat) (w : World) (hB : w.cell? ⟨B, 0, none⟩ = some (.int .u32 k)) :
    PredBelow Try.prog 46 #[.pointer (some ⟨B, 0, none⟩)] (fun x => .agg (enc3 x).toArray) (fun x => x.key == k) w := fun W x hb => by
  have hlt := block_lt_of_cell hB
  have hc : W.cell? ⟨B, 0, none⟩ = some (.int .u32 k) := (hb.cell (p := ⟨B, 0, none⟩) hlt).trans hB
  have hBW : B < W.heap.size := Nat.lt_of_lt_of_le hlt hb.size
  have hne : B ≠ W.heap.size := by omega
  show Calls Try.prog 46 #[.agg #[.int .u32 x.key, .int .i64 x.due, .int .i64 x.no], .pointer (some ⟨B, 0, none⟩)] W _
  have HB := hx hb
  clear hb hB hlt
  go_enter Try.func46, Try.ntmps46
  go_wp2
  go_ret
  exact ⟨rfl, HB.out.alloc HB.out.size _⟩
def fiV (k : Int) (h : List En) : Int := match keyAt k h with | some i => i | none => -1
theorem idx_keyAt (k : Int) (h : List En) : Lib.idxBy (fun _ y => y.key == k) h (default : En) = fiV k h := by
  unfold Lib.idxBy
  have key : ∀ (h : List En) (n : Nat), Lib.idxByFrom (fun _ y => y.key == k) (default : En) h n = match keyAt k h with | some i => ((n + i : Nat) : Int) | none => -1 := by
    intro h
    induction h with
    | nil => intro n; rfl
    | cons y h ih =>
      intro n
      rw [Lib.idxByFrom, keyAt]
      by_cases hy : y.key = k
      · simp [hy]
      · rw [if_neg (by simpa using hy), if_neg hy, ih]
        cases keyAt k h with
        | none => rfl
        | some i => show ((n + 1 + i : Nat) : Int) = ((n + (i + 1) : Nat) : Int); congr 1; omega
  rw [key h 0]
  unfold fiV
  cases keyAt k h with
  | none => rfl
  | some i => simp
theorem fi_some {k : Int} {h : List En} {i : Nat} (e : keyAt k h = some i) : fiV k h = i := by unfold fiV; rw [e]
theorem fi_none {k : Int} {h : List En} (e : keyAt k h = none) : fiV k h = -1 := by unfold fiV; rw [e]
set_option maxHeartbeats 800000 in
theorem idx_nil (fv : Value) (w : World) : Calls Try.prog 45 #[.slice none 0 0, fv] w fun e w' => e = .returned (.int .i64 (-1)) ∧ Kept [] w w' := by
  have K := hx (Kept.refl [] w)
  go_enter Try.func45, Try.ntmps45
  go_wp2
  go_loop [8] (fun iv => iv = .int .i64 0) (fun _ => 0)
  case atStart => rfl
  case round =>
    obtain rfl := hrel
    go_wp2
    go_ret
    exact ⟨rfl, K.out⟩
theorem cel_cells {w : World} {base : Nat} {e : TypeId} {g n c : Nat} {h : List En} (ho : w.ownsRow base e 3 (.slice (some ⟨g, 0, none⟩) n c) n (cel h)) : ∀ j, j < h.length → ∀ i v, (enc3 h[j]!)[i]? = some v → w.cell? ⟨g, 0 + j * 3 + i, none⟩ = some v := by
  intro j hj i v hv
  have hi : i < 3 := (List.getElem?_eq_some_iff.1 hv).1
  have hl := ho.1
  rw [cel_len] at hl
  have e1 := cel_at h j hj i hi
  rw [show h.getD j en0 = h[j]! by simp [List.getD, hj]] at e1
  rw [Nat.zero_add, ho.cellAt (j * 3 + i) (by omega), e1, hv]
set_option maxHeartbeats 1600000 in
theorem find_any (q : Nat) (v : Value) (room now no k : Int) (h : List En) (w : World) (s : Ts w q v room now no h) (hb : h.length ≤ 1000000) :
    Calls Try.prog 37 #[.pointer (some ⟨q, 0, none⟩), .int .u32 k] w fun e w' => e = .returned (.int .i64 (fiV k h)) ∧ Kept [] w w' := by
  have c3 := s.hq.cell (i := 3) rfl
  have hlt := s.hq.lt
  have eg : ∀ args w, (callFunc 46 args).run Try.prog w = .ok (.enter 46 args) w := enters_of Try.func46 (by kernel_rfl) rfl
  have K1 := hx ((Kept.refl [] w).alloc (.cells #[.int .u32 k] 31))
  have hcon : ∃ a c, v = .slice a h.length c ∧ Hx (Calls Try.prog 45 #[.slice a h.length c, .func (.func 46) #[] #[.pointer (some ⟨w.heap.size, 0, none⟩)]] (w.alloc (.cells #[.int .u32 k] 31)) fun e w' => e = .returned (.int .i64 (fiV k h)) ∧ Kept [] (w.alloc (.cells #[.int .u32 k] 31)) w') := by
    rcases s.own.2 with ⟨rfl, h0⟩ | ⟨g, cap, cur, rfl, _, hg, hnc, _⟩
    · refine ⟨_, _, by rw [h0], ⟨?_⟩⟩
      have hn : h = [] := List.eq_nil_of_length_eq_zero h0
      subst hn
      exact idx_nil _ _
    · refine ⟨_, _, rfl, ⟨?_⟩⟩
      have ho := s.own
      have hcel := cel_cells ho
      have hgl := (Array.getElem?_eq_some_iff.1 hg).1
      refine (AnyQ.slices_IndexFunc lIdx 3 Try.isAgg78 Try.sizeOf78 enc3 (fun _ => rfl) (fun x => x.key == k) 46 #[.pointer (some ⟨w.heap.size, 0, none⟩)] eg g 0 h.length cap h (w.alloc (.cells #[.int .u32 k] 31)) (pred_any k w.heap.size _ ((Blk.new w [.int .u32 k] 31).cell (i := 0) rfl)) (Nat.le_refl _) (by omega) (by simp; omega) (fun j hj i v hv => kept_cell K1.out (hcel j hj i v hv))).mono ?_
      rintro e w' ⟨rfl, hb⟩
      refine ⟨?_, Kept.ofBelow hb⟩
      rw [List.take_length, idx_keyAt]
  obtain ⟨a, c, rfl, HC⟩ := hcon
  generalize fiV k h = r at *
  clear s hb eg
  go_enter Try.func37, Try.ntmps37
  go_wp2_with (go_at_call 45; refine HC.out.mono ?_; rintro e w' ⟨rfl, hk⟩; have K2 := hx (K1.out.trans0 hk); clear hk)
  go_ret
  exact ⟨rfl, K2.out⟩
end Go.Proofs.Yteobkcmfpmolmaa
