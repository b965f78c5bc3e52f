import Derived.Test.YthpdoekeooedfaaPrioB
import Derived.ChangeSlices
import Derived.WideShapes
namespace Go.Proofs.Ythpdoekeooedfaa
open Go Go.RowKit
/-- A slice of numbers, as a list. -/
structure Ints (w : World) (a : Option Addr) (len cap : Nat) (l : List Int) : Prop where
  hlen : len = l.length
  hle : len ≤ cap
  htop : cap ≤ maxLen
  hcell : ∀ i (h : i < l.length), ∃ b off, a = some ⟨b, off, none⟩ ∧ w.cell? ⟨b, off + i, none⟩ = some (.int .i64 l[i])
theorem Ints.kept {w w' : World} {a : Option Addr} {len cap : Nat} {l : List Int} (h : Ints w a len cap l) (hk : Kept [] w w') : Ints w' a len cap l :=
  ⟨h.hlen, h.hle, h.htop, fun i hi => by
    obtain ⟨b, off, h1, h2⟩ := h.hcell i hi
    exact ⟨b, off, h1, kept_cell hk h2⟩⟩
theorem Ints.some {w : World} {a : Option Addr} {len cap : Nat} {l : List Int} (h : Ints w a len cap l) (hl : 0 < l.length) : ∃ b off, a = Option.some ⟨b, off, none⟩ := by
  obtain ⟨b, off, h1, _⟩ := h.hcell 0 hl
  exact ⟨b, off, h1⟩
theorem Ints.at {w : World} {b off len cap : Nat} {l : List Int} (h : Ints w (Option.some ⟨b, off, none⟩) len cap l) (i : Nat) (hi : i < l.length) : w.cell? ⟨b, off + i, none⟩ = Option.some (.int .i64 (l.getD i 0)) := by
  obtain ⟨b', off', h1, h2⟩ := h.hcell i hi
  simp only [Option.some.injEq, Addr.mk.injEq] at h1
  obtain ⟨rfl, rfl, _⟩ := h1
  rw [h2]; simp [List.getD, hi]
def itm (l : List Int) (j : Nat) : It := ⟨l.getD j 0, (j : Int) + 1, j⟩
structure Ord (l : List Int) (k : Nat) (h : List It) : Prop where
  heap : Heap h
  len : h.length = k
  mem : ∀ x ∈ h, ∃ j, j < k ∧ x = itm l j
  dis : h.Pairwise fun a b => a.turn ≠ b.turn
theorem Ord.nil (l : List Int) : Ord l 0 [] := ⟨heap_nil, rfl, fun x hx => by simp at hx, List.Pairwise.nil⟩
theorem Ord.add {l : List Int} {k : Nat} {h : List It} (o : Ord l k h) : Ord l (k + 1) (addL h (itm l k)) := by
  have hp := add_perm h (itm l k)
  refine ⟨add_heap h _ o.heap, by rw [add_len, o.len], fun x hx => ?_, ?_⟩
  · have hx' := hp.mem_iff.1 hx
    simp only [List.mem_cons] at hx'
    rcases hx' with rfl | hx'
    · exact ⟨k, by omega, rfl⟩
    · obtain ⟨j, hj, rfl⟩ := o.mem x hx'
      exact ⟨j, by omega, rfl⟩
  · refine (hp.pairwise_iff (fun h => Ne.symm h)).2 (List.Pairwise.cons (fun x hx => ?_) o.dis)
    obtain ⟨j, hj, rfl⟩ := o.mem x hx
    simp only [itm]
    omega
structure Ord2 (l : List Int) (n k : Nat) (h : List It) (lr lv : Int) : Prop where
  heap : Heap h
  len : k + h.length = n
  mem : ∀ x ∈ h, ∃ j, j < n ∧ x = itm l j
  dis : h.Pairwise fun a b => a.turn ≠ b.turn
  aft : 0 < k → ∀ x ∈ h, lr < x.rank ∨ (lr = x.rank ∧ lv < x.v)
theorem Ord2.of {l : List Int} {n : Nat} {h : List It} (o : Ord l n h) (lr lv : Int) : Ord2 l n 0 h lr lv :=
  ⟨o.heap, by rw [o.len]; omega, o.mem, o.dis, fun h => absurd h (Nat.lt_irrefl 0)⟩
theorem Ord2.first {l : List Int} {n k : Nat} {h : List It} {lr lv : Int} (o : Ord2 l n k h lr lv) (hk : k < n) : at_ h 0 ∈ h := by
  have hl : 0 < h.length := by have := o.len; omega
  rw [at_get h 0 hl]; exact List.getElem_mem hl
theorem Ord2.pop {l : List Int} {n k : Nat} {h : List It} {lr lv : Int} (o : Ord2 l n k h lr lv) (hk : k < n) : Ord2 l n (k + 1) (takeL h 0) (at_ h 0).rank (at_ h 0).v := by
  have hl : 0 < h.length := by have := o.len; omega
  have hp := take_perm h 0 hl
  have hd := (hp.pairwise_iff (R := fun a b : It => a.turn ≠ b.turn) (fun h => Ne.symm h)).2 o.dis
  have hin : ∀ x ∈ takeL h 0, x ∈ h := fun x hx => hp.mem_iff.1 (List.mem_cons_of_mem _ hx)
  refine ⟨take_heap h 0 o.heap hl, by rw [take_len]; have := o.len; omega, fun x hx => o.mem x (hin x hx), (List.pairwise_cons.1 hd).2, fun _ x hx => ?_⟩
  have hle := heap_min h o.heap x (hin x hx)
  have hne := (List.pairwise_cons.1 hd).1 x hx
  obtain ⟨j, _, hj⟩ := o.mem x (hin x hx)
  obtain ⟨i, _, hi⟩ := o.mem _ (o.first hk)
  rw [hi, hj] at hle hne
  rw [hi, hj]
  simp only [le, itm] at *
  omega
set_option maxRecDepth 100000 in
set_option maxHeartbeats 6400000 in
theorem law_order (a : Option Addr) (n c : Nat) (l : List Int) (w : World) (hl : Ints w a n c l) :
    Calls Try.prog 3 #[.slice a n c] w fun e w' => e = .returned (.bool true) ∧ Kept [] w w' := by
  by_cases hbig : 200 < n
  · have hbi : (200 : Int) < (n : Int) := by omega
    go_enter Try.func3, Try.ntmps3
    go_wp2_with fail
    refine (qawake_any _).mono ?_
    rintro e w1 ⟨rfl, hk1⟩
    go_wp2
    go_ret
    exact ⟨rfl, hk1⟩
  · have hbi : ¬ (200 : Int) < (n : Int) := by omega
    have hn2 : n ≤ 200 := by omega
    have hn' := Lib.hid hl.hlen
    have hl' := Lib.hid hl
    clear hl hbig
    go_enter Try.func3, Try.ntmps3
    go_wp2_with fail
    refine (qawake_any _).mono ?_
    rintro e w1 ⟨rfl, hk1⟩
    go_wp2_with fail
    refine (new_any 200 _ (by omega) (by omega)).mono ?_
    rintro e w2 ⟨rfl, hb2, hk2⟩
    have s2 := Qs.new hb2
    have x2 : QW w w2 w1.heap.size (.slice none 0 0) := ⟨hk1.trans0 hk2, hk1.size, fun g h => by simp [Value.ownBlock] at h⟩
    clear hb2 hk1 hk2
    go_wp2
    go_loopw [5] (fun iv wr => ∃ (k : Nat) (h : List It) (v : Value), k ≤ n ∧ iv = .int .i64 k ∧ Ord l k h ∧ Qs wr w1.heap.size v 200 k h ∧ QW w wr w1.heap.size v) (fun iv _ => n - (intOf iv).toNat)
    case atStart => exact ⟨0, [], _, by omega, rfl, Ord.nil l, s2, x2⟩
    case round =>
      clear s2 x2
      obtain ⟨k, h, v, hk, rfl, o, s, x⟩ := hrel
      by_cases hlt : k < n
      · have hi := hl'.out.kept x.kept
        obtain ⟨b, off, rfl⟩ := hi.some (by have := hn'.out; omega)
        have hc := hi.at k (by have := hn'.out; omega)
        have hlk : (k : Int) < (n : Int) := by omega
        have HP := Lib.hid (push_any w1.heap.size v 200 k (l.getD k 0) k h _ s (by rw [o.len]; omega) (by omega) (by omega))
        have HO := Lib.hid o
        have HX := Lib.hid x
        have hlen := o.len
        have HL := Lib.hid hlen
        clear hi o s x hlen
        go_wp2_with fail
        refine HP.out.mono ?_
        rintro e w3 ⟨v3, hp3, hk3, hn3⟩
        rw [if_neg (by rw [add_len, HL.out]; omega)] at hp3
        obtain ⟨rfl, s3⟩ := hp3
        have x3 := HX.out.next hk3 hn3
        have o3 := HO.out.add
        clear hk3 hn3 hc
        go_wp2
        go_roundw
        case rel => exact ⟨k + 1, _, v3, by omega, by go_num, o3, by simpa [itm] using s3, x3⟩
        case measure => simp [intOf] <;> omega
      · obtain rfl : k = n := by omega
        clear hlt
        go_wp2
        go_loopw [8, 9, 10] (fun rv lv iv wr => ∃ (j : Nat) (h : List It) (v : Value) (lr ll : Int), j ≤ k ∧ iv = .int .i64 j ∧ rv = .int .i64 lr ∧ lv = .int .i64 ll ∧ Ord2 l k j h lr ll ∧ Qs wr w1.heap.size v 200 k h ∧ QW w wr w1.heap.size v) (fun _ _ iv _ => k - (intOf iv).toNat)
        case atStart => exact ⟨0, h, v, 0, -1, by omega, rfl, rfl, rfl, Ord2.of o _ _, s, x⟩
        case round =>
          clear o s x
          obtain ⟨j, h, v, lr, ll, hj, rfl, rfl, rfl, o, s, x⟩ := hrel
          have hlen := o.len
          by_cases hlt : j < k
          · obtain ⟨i, hi, hfi⟩ := o.mem _ (o.first hlt)
            have haft : 0 < j → lr < l.getD i 0 ∨ (lr = l.getD i 0 ∧ ll < (i : Int)) := fun h0 => by
              have := o.aft h0 _ (o.first hlt)
              rw [hfi] at this
              exact this
            have o2 := o.pop hlt
            rw [hfi] at o2
            have HP := Lib.hid (pop_some w1.heap.size v 200 k h _ s (by omega) (by omega))
            have HF := Lib.hid hfi
            have HO := Lib.hid o2
            have HX := Lib.hid x
            have hjk : (j : Int) < (k : Int) := by omega
            clear o s x hlen hfi o2
            go_wp2_with fail
            refine HP.out.mono ?_
            rintro e w3 ⟨he, v3, s3, hk3, hn3⟩
            have x3 := HX.out.next hk3 (.inl hn3)
            rw [HF.out] at he
            simp only [itm] at he
            subst he
            have hin := hl'.out.kept x3.kept
            obtain ⟨b, off, rfl⟩ := hin.some (by have := hn'.out; omega)
            have hc := hin.at i (by have := hn'.out; omega)
            have hO2 := HO.out
            simp only [itm] at hO2
            have HO2 := Lib.hid hO2
            generalize l.getD i 0 = R at *
            have bR : (R != R) = false := by simp
            have b0 : decide ((i : Int) < 0) = false := by simp <;> omega
            have b1 : decide (k ≤ i) = false := by simp <;> omega
            have b2 : (i : Int) < (k : Int) := by omega
            have S3 := Lib.hid s3
            have X3 := Lib.hid x3
            clear hin hk3 hn3 s3 x3 hO2
            by_cases hj0 : j = 0
            · have c0 : decide ((0 : Int) < (j : Int)) = false := by simp <;> omega
              have c1 : decide (0 < j) = false := by simp <;> omega
              clear haft hj0
              go_wp2
              go_roundw
              case rel => exact ⟨j + 1, _, v3, _, _, by omega, by go_num, rfl, rfl, HO2.out, S3.out, X3.out⟩
              case measure => simp [intOf] <;> omega
            · have c0 : decide ((0 : Int) < (j : Int)) = true := by simp <;> omega
              have c1 : decide (0 < j) = true := by simp <;> omega
              have hlt2 := haft (by omega)
              have c2 : decide (R < lr) = false := by simp <;> omega
              clear haft hj0
              by_cases hR : R = lr
              · have c3 : (R == lr) = true := by simp [hR]
                have c4 : decide ((i : Int) ≤ ll) = false := by simp <;> omega
                clear hR hlt2
                go_wp2
                go_roundw
                case rel => exact ⟨j + 1, _, v3, _, _, by omega, by go_num, rfl, rfl, HO2.out, S3.out, X3.out⟩
                case measure => simp [intOf] <;> omega
              · have c3 : (R == lr) = false := by simp [hR]
                clear hR hlt2
                go_wp2
                go_roundw
                case rel => exact ⟨j + 1, _, v3, _, _, by omega, by go_num, rfl, rfl, HO2.out, S3.out, X3.out⟩
                case measure => simp [intOf] <;> omega
          · have hnil : h = [] := List.eq_nil_of_length_eq_zero (by omega)
            subst hnil
            have hjk : ¬ (j : Int) < (k : Int) := by omega
            have hjk2 : decide (j < k) = false := by simp <;> omega
            clear o hlt hlen
            go_wp2_with fail
            refine (len_any _ _ _ _ _ _ s).mono ?_
            rintro e w3 ⟨rfl, rfl⟩
            go_wp2
            go_ret
            exact ⟨rfl, x.kept⟩
open Go.ChangeShapes Go.WideShapes in
theorem ints_of {H : Type} {enc : TypeId × Value → H} {w : World} {base : Nat} {held : Bool} {fuel : Nat} {v : Value} {x : DataW H × List MemPlace} (h : DataW.trod enc Try.prog w base (fun _ => true) held fuel 22 [v] = some x) : ∃ a n c l, v = .slice a n c ∧ Ints w a n c l := by
  rcases open_ints Try.underlying22 Try.underlying3 (by kernel_rfl) h with ⟨h1, _⟩ | ⟨a, len, cap, zs, h1, _, hl, hm, hz, _, hc, hw⟩
  · exact ⟨none, 0, 0, [], by simpa using h1, rfl, Nat.le_refl _, Nat.zero_le _, fun i hi => by simp at hi⟩
  · have hz' : zs.length = cap := by simpa using hz
    refine ⟨some a, len, cap, zs.take len, by simpa using h1, by simp; omega, hl, hm, fun i hi => ?_⟩
    simp at hi
    have h1 := hc i (by omega)
    have hs : a.spot = none := by
      have h4 := World.cell?_spot (hc 0 (by omega))
      simpa [Addr.add] using h4
    obtain ⟨b, off, spot⟩ := a
    simp at hs
    subst hs
    refine ⟨b, off, rfl, ?_⟩
    have h2 : w.cell? ⟨b, off + i, none⟩ = some (.int .i64 (zs.getD i 0)) := by
      rcases Nat.eq_zero_or_pos i with rfl | h0
      · simpa [Addr.add] using h1
      · simpa [Addr.add, show i ≠ 0 by omega] using h1
    rw [h2]
    simp [List.getD, show i < zs.length by omega]
end Go.Proofs.Ythpdoekeooedfaa
