/- What a reading of bytes, and of slices of bytes, tells. What a reading of shards tells. -/
import Derived.Test.YtjgnngnknhkpmaaLst
import Derived.Test.YtjgnngnknhkpmaaOpen
import Derived.Test.YtjgnngnknhkpmaaShd
namespace Go.Proofs.Ytjgnngnknhkpmaa
open Go Go.ChangeShapes Go.WideShapes Go.ChangeAt Go.RowKit Go.Deep
theorem list_of {α : Type} (d : α) (P : Nat → α → Prop) : ∀ n, (∀ i, i < n → ∃ x, P i x) → ∃ l : List α, l.length = n ∧ ∀ i, i < n → P i (l.getD i d)
  | 0, _ => ⟨[], rfl, fun i hi => absurd hi (by omega)⟩
  | n + 1, h => by
    obtain ⟨l, h1, h2⟩ := list_of d P n (fun i hi => h i (by omega))
    obtain ⟨x, h3⟩ := h n (by omega)
    refine ⟨l ++ [x], by simp [h1], fun i hi => ?_⟩
    by_cases g : i < n
    · rw [List.getD_eq_getElem?_getD, List.getElem?_append_left (by omega), ← List.getD_eq_getElem?_getD]
      exact h2 i g
    · obtain rfl : i = n := by omega
      rw [List.getD_eq_getElem?_getD, List.getElem?_append_right (by omega), h1, Nat.sub_self]
      exact h3
theorem byt_of {H : Type} {enc : TypeId × Value → H} {w : World} {base : Nat} {held : Bool} {spare : Nat → Bool} {fuel : Nat} {v : Value} {x : DataW H × List MemPlace} (h : DataW.trod enc Try.prog w base spare held fuel 39 [v] = some x) :
    ∃ a c, ∃ l : List Nat, v = .slice a l.length c ∧ l.length ≤ c ∧ c ≤ maxLen ∧ Bn w a l ∧ Oct l := by
  rcases open_slice1 Try.underlying39 (by kernel_rfl) h with ⟨h1, _⟩ | ⟨a, len, cap, m, n, V, D, Pl, h1, hb, hl, hm, hmm, _, hall⟩
  · exact ⟨none, 0, [], by simpa using h1, by simp, Nat.zero_le _, fun i hi => absurd hi (by simp), fun y hy => by simp at hy⟩
  · have hle : len ≤ m := by rw [hmm]; split <;> omega
    have hv : ∀ i, i < len → ∃ y : Nat, w.cell? (a.add i) = some (bn y) ∧ y < 256 := fun i hi => by
      obtain ⟨h2, h3⟩ := hall i (by omega)
      obtain ⟨q, h4, _, h5⟩ := DataW.trod_int Try.underlying5 h3
      simp only [List.cons.injEq, and_true] at h4
      rw [h4] at h2
      simp [Lit.wf, IntKind.min, IntKind.max, IntKind.signed, IntKind.bits] at h5
      obtain ⟨y, rfl⟩ := Int.eq_ofNat_of_zero_le (show 0 ≤ q by omega)
      exact ⟨y, h2, by omega⟩
    obtain ⟨l, h6, h7⟩ := list_of 0 (fun i y => w.cell? (a.add i) = some (bn y) ∧ y < 256) len hv
    refine ⟨some a, cap, l, by rw [h6]; simpa using h1, by omega, hm, fun i hi => ?_, fun y hy => ?_⟩
    · have h8 := (h7 i (by omega)).1
      have hs : a.spot = none := by
        have h5 := World.cell?_spot (h7 0 (by omega)).1
        simpa [Addr.add] using h5
      obtain ⟨b, off, spot⟩ := a
      simp at hs
      subst hs
      rw [Addr.add_mid] at h8
      exact ⟨b, off, rfl, h8⟩
    · obtain ⟨i, hi, rfl⟩ := List.getElem_of_mem hy
      have h8 := (h7 i (by omega)).2
      rw [List.getD_eq_getElem?_getD, List.getElem?_eq_getElem hi] at h8
      exact h8
theorem byts_of {H : Type} {enc : TypeId × Value → H} {w : World} {base : Nat} {held : Bool} {spare : Nat → Bool} {fuel : Nat} {v : Value} {x : DataW H × List MemPlace} (h : DataW.trod enc Try.prog w base spare held fuel 22 [v] = some x) :
    ∃ a c, ∃ ls : List (List Nat), v = .slice a ls.length c ∧ ls.length ≤ c ∧ c ≤ maxLen ∧ Cs w a ls ∧ ∀ y ∈ ls, Oct y := by
  rcases open_slice1 Try.underlying22 (by kernel_rfl) h with ⟨h1, _⟩ | ⟨a, len, cap, m, n, V, D, Pl, h1, hb, hl, hm, hmm, _, hall⟩
  · exact ⟨none, 0, [], by simpa using h1, by simp, Nat.zero_le _, fun i hi => absurd hi (by simp), fun y hy => by simp at hy⟩
  · have hle : len ≤ m := by rw [hmm]; split <;> omega
    have hv : ∀ i, i < len → ∃ y : List Nat, ∃ ai ci, w.cell? (a.add i) = some (.slice ai y.length ci) ∧ Bn w ai y ∧ Oct y := fun i hi => by
      obtain ⟨h2, h3⟩ := hall i (by omega)
      obtain ⟨ai, ci, y, h4, _, _, h5, h6⟩ := byt_of h3
      rw [h4] at h2
      exact ⟨y, ai, ci, h2, h5, h6⟩
    obtain ⟨ls, h6, h7⟩ := list_of [] (fun i (y : List Nat) => ∃ ai ci, w.cell? (a.add i) = some (.slice ai y.length ci) ∧ Bn w ai y ∧ Oct y) len hv
    refine ⟨some a, cap, ls, by rw [h6]; simpa using h1, by omega, hm, fun i hi => ?_, fun y hy => ?_⟩
    · obtain ⟨ai, ci, h8, h9, _⟩ := h7 i (by omega)
      have hs : a.spot = none := by
        obtain ⟨_, _, h4, _⟩ := h7 0 (by omega)
        have h5 := World.cell?_spot h4
        simpa [Addr.add] using h5
      obtain ⟨b, off, spot⟩ := a
      simp at hs
      subst hs
      rw [Addr.add_mid] at h8
      exact ⟨b, off, ai, ci, rfl, h8, h9⟩
    · obtain ⟨i, hi, rfl⟩ := List.getElem_of_mem hy
      obtain ⟨_, _, _, _, h8⟩ := h7 i (by omega)
      rw [List.getD_eq_getElem?_getD, List.getElem?_eq_getElem hi] at h8
      exact h8
end Go.Proofs.Ytjgnngnknhkpmaa
namespace Go.Proofs.Ytjgnngnknhkpmaa
open Go Go.ChangeShapes Go.WideShapes Go.ChangeAt Go.RowKit Go.Deep
theorem shards_of {H : Type} {enc : TypeId × Value → H} {w : World} {base : Nat} {held : Bool} {spare : Nat → Bool} {fuel : Nat} {v : Value} {x : DataW H × List MemPlace} (h : DataW.trod enc Try.prog w base spare held fuel 45 [v] = some x) :
    ∃ a c, ∃ L : List Sd, v = .slice a L.length c ∧ L.length ≤ c ∧ c ≤ maxLen ∧ Sh w a L ∧ ∀ s ∈ L, Oct s.l := by
  rcases open_slice Try.underlying45 h with ⟨h1, _⟩ | ⟨a, len, cap, m, n, D, Pl, h1, hb, hl, hm, hmm, _, hall⟩
  · exact ⟨none, 0, [], by simpa using h1, by simp, Nat.zero_le _, fun i hi => absurd hi (by simp), fun y hy => by simp at hy⟩
  · have hle : len ≤ m := by rw [hmm]; split <;> omega
    have c3 : Try.prog.cellsOf 47 = 2 := by kernel_rfl
    have ci : Try.prog.cellsOf 3 = 1 := by kernel_rfl
    have cb : Try.prog.cellsOf 39 = 1 := by kernel_rfl
    have hel : ∀ i, i < len → ∃ s : Sd, w.cells? base (a.add (i * 2)) 2 = some [.int .i64 s.x, .slice s.a s.l.length s.c] ∧ Bn w s.a s.l ∧ Oct s.l := by
      intro i hi
      obtain ⟨cs, h2, h3⟩ := hall i (by omega)
      rw [c3] at h2
      have hr : Rd enc Try.prog w base spare held 47 cs := ⟨n, _, h3⟩
      have hlen := hr.len Try.underlying47
      rw [c3] at hlen
      obtain ⟨k, e0, _⟩ := (hr.field Try.underlying47 0 _ rfl).int Try.underlying3
      obtain ⟨f1, x1, e1⟩ := hr.field Try.underlying47 1 _ rfl
      change (cs.drop 0).take (Try.prog.cellsOf 3) = _ at e0
      change DataW.trod enc Try.prog w base spare held f1 39 ((cs.drop 1).take (Try.prog.cellsOf 39)) = _ at e1
      rw [ci] at e0
      rw [cb] at e1
      match cs, hlen, e0, e1, h2 with
      | [u0, u1], _, e0, e1, h2 =>
        simp only [List.drop_zero, List.take_succ_cons, List.take_zero, List.cons.injEq, and_true] at e0
        obtain ⟨ai, c, l, h5, _, _, h6, h7⟩ := byt_of (v := u1) (by simpa using e1)
        refine ⟨⟨k, ai, c, l⟩, ?_, h6, h7⟩
        rw [h2, e0, h5]
    have hs : len ≠ 0 → a.spot = none := fun h0 => by
      obtain ⟨_, h3, _⟩ := hel 0 (by omega)
      obtain ⟨_, _, h4⟩ := World.cells?_some h3
      have h5 := World.cell?_spot (h4 0 (by omega))
      simpa [Addr.add] using h5
    obtain ⟨L, h6, h7⟩ := list_of s0 (fun i (s : Sd) => w.cells? base (a.add (i * 2)) 2 = some [.int .i64 s.x, .slice s.a s.l.length s.c] ∧ Bn w s.a s.l ∧ Oct s.l) len hel
    refine ⟨some a, cap, L, by rw [h6]; simpa using h1, by omega, hm, fun i hi => ?_, fun y hy => ?_⟩
    · obtain ⟨h8, h9, _⟩ := h7 i (by omega)
      have hs := hs (by omega)
      obtain ⟨b, off, spot⟩ := a
      simp at hs
      subst hs
      obtain ⟨_, _, h4⟩ := World.cells?_some h8
      have g0 := h4 0 (by omega)
      have g1 := h4 1 (by omega)
      rw [Addr.add_mid] at g0 g1
      rw [Addr.add_mid] at g0 g1
      exact ⟨b, off, rfl, g0, g1, h9⟩
    · obtain ⟨i, hi, rfl⟩ := List.getElem_of_mem hy
      obtain ⟨_, _, h8⟩ := h7 i (by omega)
      have e := sd_get hi
      unfold sd at e
      rw [e] at h8
      exact h8
end Go.Proofs.Ytjgnngnknhkpmaa
