import Derived.Test.YtpedenaaiinakaaCrcD
import Derived.StillTailTactics
namespace Go.Proofs.Ytpedenaaiinakaa
open Go.RowKit
/-- Four bytes of a sum, the lowest first. -/
def le4 (m : Nat) : List UInt8 := [lob m, lob (m / 256), lob (m / 65536), lob (m / 16777216)]
def sealed (l : List UInt8) : List UInt8 := l ++ le4 (mor 0 l)
theorem bts4 {w : World} {b : Nat} {s0 s1 s2 s3 : UInt8} {T : TypeId} (h : Blk w b [bv s0, bv s1, bv s2, bv s3] T) : Bts w (some ⟨b, 0, none⟩) 4 4 [s0, s1, s2, s3] :=
  Bts.ofBlk (l := [s0, s1, s2, s3]) (cap := 4) h (by simp) (by unfold maxLen; omega) (fun i hi => by
    match i, hi with
    | 0, _ => rfl
    | 1, _ => rfl
    | 2, _ => rfl
    | 3, _ => rfl)
theorem splice_made (n k : Nat) (l : List UInt8) (hl : l.length = n) : (splice (madeCells #[Value.int .u8 0] k).toList 0 (l.map bv)).take n = l.map bv := by
  simp [splice, ← hl]
set_option maxRecDepth 100000 in
set_option maxHeartbeats 800000 in
theorem seal_any (p : Nat) (a : Option Addr) (n c : Nat) (l : List UInt8) (w : World) (hl : Bts w a n c l) (hn : l.length ≤ 1000000) (hp : Blk w p (tabk 256) 60) :
    Calls Try.prog 25 #[.pointer (some ⟨p, 0, none⟩), .slice a n c] w fun e w' => ∃ v, e = .returned v ∧ w'.ownsRow w.heap.size 5 1 v (n + 4) ((sealed l).map bv) ∧ Kept [] w w' := by
  obtain rfl := hl.hlen
  have hle := hl.hle
  have htop := hl.htop
  unfold maxLen at htop
  have hmk := makeU8c l.length (l.length + 4) (by omega) (by omega)
  rw [show ((l.length + 4 : Nat) : Int) = (l.length : Int) + 4 by omega] at hmk
  have hx := mor_lt 0 l
  go_enter Try.func25, Try.ntmps25
  go_wp2_with (refine wpList_cpy8 rfl (.tmp 13) (.tmp 14) rfl w.heap.size 0 l.length (l.length + 4) rfl (madeCells #[.int .u8 0] (l.length + 4)).toList ?_ a l.length c l rfl ?_ ?_ ?_ ?_)
  · exact Blk.new' _ _ _
  · exact hl.kept ((Kept.refl _ _).alloc _)
  · exact Nat.le_refl _
  · simp [size_madeCells]
  · intro w1 hb1 hk1
    have hk01 : Kept [] w w1 := Kept.trans ((Kept.refl [] w).alloc _) hk1 (fun _ h => h) (fun x h => by simp at h; right; omega)
    have hsz := hb1.lt
    clear hmk
    have hown := own_part hb1 (Nat.le_refl _) (cap := l.length + 4) (by rw [length_splice _ _ _ (by simp [size_madeCells])]; simp [size_madeCells]) (by unfold maxLen; omega) (by omega) (splice_made l.length (l.length + 4) l rfl)
    have hse := Lib.hid (show sealed l = l ++ le4 (mor 0 l) from rfl)
    have hsum := Lib.hid (sum_any p a l.length c l w1 (hl.kept hk01) (hk01.blk hp (by simp)))
    generalize mor 0 l = m at *
    have v0 : IntKind.u8.wrap (m : Int) = ((lob m).toNat : Int) := by rw [IntKind.wrap_u8', lob_nat]; omega
    have v1 : IntKind.u8.wrap ((m : Int) / 256) = ((lob (m / 256)).toNat : Int) := by rw [IntKind.wrap_u8', lob_nat]; omega
    have v2 : IntKind.u8.wrap ((m : Int) / 65536) = ((lob (m / 65536)).toNat : Int) := by rw [IntKind.wrap_u8', lob_nat]; omega
    have v3 : IntKind.u8.wrap ((m : Int) / 16777216) = ((lob (m / 16777216)).toNat : Int) := by rw [IntKind.wrap_u8', lob_nat]; omega
    go_wp2_with (first | (go_at_call 37; refine hsum.out.mono ?_; rintro e w' ⟨rfl, rfl⟩) | (at_builtin; refine wpList_app8 rfl (.tmp 19) (.tmp 31) rfl w.heap.size _ l.length l rfl ?_ _ 4 4 (le4 m) rfl ?_ ?_ ?_ ?_))
    · exact hown.alloc _
    · exact bts4 (Blk.new' _ _ _)
    · omega
    · simp; omega
    · intro v' w2 hown2 hgr
      go_wp2
      go_ret
      refine ⟨v', rfl, by rw [hse.out, List.map_append]; exact hown2, Kept.grown (hk01.alloc _) hgr ?_⟩
      rintro k hk
      right
      simp [Value.ownBlock] at hk
      omega

theorem byts4 (m : Nat) : byts m 4 = [lob (m / 16777216), lob (m / 65536), lob (m / 256), lob m] := by
  simp [byts, tab, List.range, List.range.loop]
set_option maxRecDepth 100000 in
set_option maxHeartbeats 800000 in
theorem rseal_any (a : Option Addr) (n c : Nat) (l : List UInt8) (w : World) (hl : Bts w a n c l) (hn : l.length ≤ 1000000) :
    Calls Try.prog 22 #[.slice a n c] w fun e w' => ∃ v, e = .returned v ∧ w'.ownsRow w.heap.size 5 1 v (n + 4) ((sealed l).map bv) ∧ Kept [] w w' := by
  obtain rfl := hl.hlen
  have hle := hl.hle
  have htop := hl.htop
  unfold maxLen at htop
  have hmk := makeU8 l.length (by omega)
  have hx := mor_lt 0 l
  have hse := Lib.hid (show sealed l = l ++ le4 (mor 0 l) from rfl)
  have hmor := Lib.hid (rmore_any 0 a l.length c l w (by omega) hl)
  generalize mor 0 l = m at *
  go_enter Try.func22, Try.ntmps22
  go_wp2_with (go_at_call 36; refine hmor.out.mono ?_; rintro e w' ⟨rfl, rfl⟩)
  refine (bytes_any m 4 _ (by omega) (by omega)).mono ?_
  rintro e w1 ⟨rfl, hb1, hk1⟩
  rw [byts4] at hb1
  have hlt1 := hb1.lt
  go_wp2_with (refine wpList_cpy8 rfl (.tmp 12) (.tmp 13) rfl w1.heap.size 0 l.length l.length rfl (madeCells #[.int .u8 0] l.length).toList ?_ a l.length c l rfl ?_ ?_ ?_ ?_)
  · exact Blk.new' _ _ _
  · exact (hl.kept hk1).kept ((Kept.refl _ _).alloc _)
  · exact Nat.le_refl _
  · simp [size_madeCells]
  · intro w2 hb2 hk2
    have hk12 : Kept [] w1 w2 := Kept.trans ((Kept.refl [] w1).alloc _) hk2 (fun _ h => h) (fun x h => by simp at h; right; omega)
    have hk02 : Kept [] w w2 := hk1.trans0 hk12
    have hsz := hb2.lt
    have hb3 := hk12.blk hb1 (by simp)
    clear hmk
    have hown := own_part hb2 (base := w.heap.size) (by omega) (cap := l.length) (by rw [length_splice _ _ _ (by simp [size_madeCells])]; simp [size_madeCells]) (by unfold maxLen; omega) (by omega) (splice_made l.length l.length l rfl)
    have c0 : w2.cell? ⟨w.heap.size, 0, none⟩ = some (.int .u8 ((lob (m / 16777216)).toNat : Int)) := hb3.cell rfl
    have c1 : w2.cell? ⟨w.heap.size, 1, none⟩ = some (.int .u8 ((lob (m / 65536)).toNat : Int)) := hb3.cell rfl
    have c2 : w2.cell? ⟨w.heap.size, 2, none⟩ = some (.int .u8 ((lob (m / 256)).toNat : Int)) := hb3.cell rfl
    have c3 : w2.cell? ⟨w.heap.size, 3, none⟩ = some (.int .u8 ((lob m).toNat : Int)) := hb3.cell rfl
    go_wp2_with fail
    have e0 : ∀ (w3 w4 : World) (r : Option Nat), w3.grownBy w4 r → r ≠ some w.heap.size → (w3.cell? ⟨w.heap.size, 0, none⟩ = some (.int .u8 ((lob (m / 16777216)).toNat : Int)) ∧ w3.cell? ⟨w.heap.size, 1, none⟩ = some (.int .u8 ((lob (m / 65536)).toNat : Int)) ∧ w3.cell? ⟨w.heap.size, 2, none⟩ = some (.int .u8 ((lob (m / 256)).toNat : Int)) ∧ w3.cell? ⟨w.heap.size, 3, none⟩ = some (.int .u8 ((lob m).toNat : Int))) → (w4.cell? ⟨w.heap.size, 0, none⟩ = some (.int .u8 ((lob (m / 16777216)).toNat : Int)) ∧ w4.cell? ⟨w.heap.size, 1, none⟩ = some (.int .u8 ((lob (m / 65536)).toNat : Int)) ∧ w4.cell? ⟨w.heap.size, 2, none⟩ = some (.int .u8 ((lob (m / 256)).toNat : Int)) ∧ w4.cell? ⟨w.heap.size, 3, none⟩ = some (.int .u8 ((lob m).toNat : Int))) := fun w3 w4 r hg hr h =>
      ⟨hg.cell h.1 (fun e => hr e.symm), hg.cell h.2.1 (fun e => hr e.symm), hg.cell h.2.2.1 (fun e => hr e.symm), hg.cell h.2.2.2 (fun e => hr e.symm)⟩
    have E0 := Lib.hid e0
    clear e0
    have hne : (Value.slice (some ⟨w1.heap.size, 0, none⟩) l.length l.length).ownBlock ≠ some w.heap.size := by simp [Value.ownBlock]; omega
    have HNE := Lib.hid hne
    clear hne
    go_region_held3 (fun w' => w'.cell? ⟨w.heap.size, 0, none⟩ = some (.int .u8 ((lob (m / 16777216)).toNat : Int)) ∧ w'.cell? ⟨w.heap.size, 1, none⟩ = some (.int .u8 ((lob (m / 65536)).toNat : Int)) ∧ w'.cell? ⟨w.heap.size, 2, none⟩ = some (.int .u8 ((lob (m / 256)).toNat : Int)) ∧ w'.cell? ⟨w.heap.size, 3, none⟩ = some (.int .u8 ((lob m).toNat : Int))) (first | exact hSS | go_keep)
      (first | (refine step_app8 rfl (.tmp 15) (.tmp 28) rfl w.heap.size (.slice (some ⟨w1.heap.size, 0, none⟩) l.length l.length) l.length l rfl ?_ (some ⟨w2.heap.size, 0, none⟩) 4 4 (le4 m) rfl ?_ ?_ ?_ ?_; (exact hown.alloc _); (exact bts4 (Blk.new' _ _ _)); omega; (simp; omega); intro v' w4 hown2 hgr; have hSS := E0.out _ _ _ hgr HNE.out ‹_›))
    go_wp2
    go_ret
    refine ⟨_, rfl, ?_, Kept.grown ((hk02.alloc _).drew) hgr ?_⟩
    · rw [hse.out, List.map_append]; simpa [List.map_append] using hown2
    · rintro k hk
      right
      simp [Value.ownBlock] at hk
      omega
/-- What the reference's Open gives. -/
def ropV (a : Option Addr) (m c : Nat) : Bool → Value
  | true => .tuple #[.slice a m c, .int .i64 0]
  | false => .tuple #[.slice none 0 0, .int .i64 20]
set_option maxRecDepth 100000 in
set_option maxHeartbeats 800000 in
theorem ropen_any (a : Option Addr) (m c : Nat) (l s : List UInt8) (w : World) (hl : Bts w a (m + 4) c (l ++ s)) (hm : l.length = m) (hs4 : s.length = 4) (hn : m ≤ 1000000) :
    Calls Try.prog 34 #[.slice a (m + 4 : Nat) c] w fun e w' => e = .returned (ropV a m c (decide (s = le4 (mor 0 l)))) ∧ Kept [] w w' := by
  have hle := hl.hle
  have htop := hl.htop
  unfold maxLen at htop
  obtain ⟨b, off, rfl⟩ := hl.some (by simp; omega)
  have ht := hl.take m (by simp; omega)
  rw [List.take_left' hm] at ht
  have hlt : ¬ ((m : Int) + 4 < 4) := by omega
  have hi1 : (m : Int) ≤ (c : Int) := by omega
  have hse := Lib.hid (show sealed l = l ++ le4 (mor 0 l) from rfl)
  have hm' := Lib.hid hm
  have hl' := Lib.hid hl
  have hs' := Lib.hid hs4
  have hsl := rseal_any (some ⟨b, off, none⟩) m c l w ht (by omega)
  have hsl' := Lib.hid hsl
  clear hsl hs4 hm hl
  by_cases h : s = le4 (mor 0 l)
  · have hd : decide (sealed l = l ++ s) = true := by rw [h]; exact decide_eq_true rfl
    have hdd := Lib.hid hd
    have hh := Lib.hid h
    clear hd h
    go_enter Try.func34, Try.ntmps34
    go_wp2_with (go_at_call 22; refine hsl'.out.mono ?_; rintro e w1 ⟨v, rfl, hown, hk⟩)
    obtain ⟨a1, c1, hv, hb⟩ := Bts.own hown
    subst hv
    refine (same_any a1 _ (m + 4) (m + 4) c1 c (sealed l) (l ++ s) _ hb (hl'.out.kept hk)).mono ?_
    rintro e w2 ⟨he, k, rfl⟩
    rw [hdd.out] at he
    subst he
    go_wp2
    go_ret2
    exact ⟨by rw [decide_eq_true hh.out]; rfl, hk.drewN k⟩
  · have hd : decide (sealed l = l ++ s) = false := by
      apply decide_eq_false
      intro e
      exact h (List.append_cancel_left e).symm
    have hdd := Lib.hid hd
    have hh := Lib.hid h
    clear hd h
    go_enter Try.func34, Try.ntmps34
    go_wp2_with (go_at_call 22; refine hsl'.out.mono ?_; rintro e w1 ⟨v, rfl, hown, hk⟩)
    obtain ⟨a1, c1, hv, hb⟩ := Bts.own hown
    subst hv
    refine (same_any a1 _ (m + 4) (m + 4) c1 c (sealed l) (l ++ s) _ hb (hl'.out.kept hk)).mono ?_
    rintro e w2 ⟨he, k, rfl⟩
    rw [hdd.out] at he
    subst he
    go_wp2
    go_ret2
    exact ⟨by rw [decide_eq_false hh.out]; rfl, hk.drewN k⟩
theorem ropen_short (a : Option Addr) (n c : Nat) (l : List UInt8) (w : World) (hl : Bts w a n c l) (h4 : l.length < 4) :
    Calls Try.prog 34 #[.slice a n c] w fun e w' => e = .returned (.tuple #[.slice none 0 0, .int .i64 70]) ∧ w = w' := by
  obtain rfl := hl.hlen
  have h44 : (l.length : Int) < 4 := by omega
  go_enter Try.func34, Try.ntmps34
  go_wp2
  go_ret2
  exact ⟨rfl, rfl⟩
end Go.Proofs.Ytpedenaaiinakaa
