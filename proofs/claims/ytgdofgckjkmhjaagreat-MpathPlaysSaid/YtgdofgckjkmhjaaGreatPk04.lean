/- Two ways to put numbers in order, in plain words. append on a slice of the call's own, whatever its elements. -/
import Derived.Test.YtgdofgckjkmhjaaGreatPk01
import Derived.Test.YtgdofgckjkmhjaaGreatPathV
import Derived.Test.YtgdofgckjkmhjaaGreatPk02
import Derived.Lib.Hide
import Derived.Test.YtgdofgckjkmhjaaGreatProg
import Derived.Deep.RegionLawGrows
import Derived.Laws.AppendOwnNone
import Derived.OwnWalk
import Derived.KernelRfl
set_option linter.unusedSimpArgs false
set_option linter.unusedVariables false
namespace Go.Proofs.YtgdofgckjkmhjaaGreat
/-- A way. -/
structure Pa where
  s : St
  seen : Sn
  quiet : Int
  probe : Int
  gap : Int
  next : Nat
def pa0 : Pa := ⟨st0, sn0, 0, 0, 0, 0⟩
def stateI (q : Int) : Int := if 60 ≤ q then 2 else if 20 ≤ q then 1 else 0
/-- Time goes by. -/
def tickP (p : Pa) : Pa × Bool :=
  if p.quiet + 1 < 20 then ({ p with quiet := p.quiet + 1, probe := 0, gap := 0 }, false)
  else if p.gap = 0 then ({ p with quiet := p.quiet + 1, probe := 5, gap := 10 }, true)
  else if 1 < p.probe then ({ p with quiet := p.quiet + 1, probe := p.probe - 1 }, false)
  else ({ p with quiet := p.quiet + 1, probe := p.gap, gap := min (2 * p.gap) 80 }, true)
def markK (s : St) : Nat → St
  | 0 => s
  | k + 1 => markS (markK s k) true
def newLost (s : Sn) (n : Nat) : Nat := if s.any then (min ((takeN s n).1.lost - s.lost) 64).toNat else 0
/-- A number comes. -/
def heardP (p : Pa) (n : Nat) : Pa × Int :=
  if (takeN p.seen n).2 = 0 then ({ p with s := markS (markK p.s (newLost p.seen n)) false, seen := (takeN p.seen n).1, quiet := 0, probe := 0, gap := 0 }, 0)
  else ({ p with seen := (takeN p.seen n).1, quiet := 0, probe := 0, gap := 0 }, (takeN p.seen n).2)
def nextU (n : Nat) : Nat := (n + 1) % 4294967296
structure PaOk (p : Pa) (k : Int) (t : Int) : Prop where
  s : StOk p.s (65 * k)
  seen : SnOk p.seen k
  quiet : 0 ≤ p.quiet ∧ p.quiet ≤ t
  probe : 0 ≤ p.probe ∧ p.probe ≤ 80
  gap : 0 ≤ p.gap ∧ p.gap ≤ 80
  next : p.next < 4294967296
theorem pa0_ok : PaOk pa0 0 0 := ⟨st0_ok, sn0_ok, by simp [pa0], by simp [pa0], by simp [pa0], by simp [pa0]⟩
theorem StOk.mono {s : St} {k l : Int} (h : StOk s k) (hl : k ≤ l) : StOk s l := by
  obtain ⟨h1, h2, h3, h4, h5⟩ := h
  exact ⟨h1, h2, h3, by omega, by omega⟩
theorem SnOk.mono {s : Sn} {k l : Int} (h : SnOk s k) (hl : k ≤ l) : SnOk s l := by
  obtain ⟨h1, h2, h3, h4, h5⟩ := h
  exact ⟨h1, h2, by omega, by omega, by omega⟩
theorem PaOk.mono {p : Pa} {k l t u : Int} (h : PaOk p k t) (hl : k ≤ l) (hu : t ≤ u) : PaOk p l u := by
  obtain ⟨h1, h2, h3, h4, h5, h6⟩ := h
  exact ⟨h1.mono (by omega), h2.mono hl, by omega, h4, h5, h6⟩
theorem markK_ok (s : St) (j : Nat) (k : Int) (h : StOk s k) : StOk (markK s j) (k + j) := by
  induction j with
  | zero => simpa [markK] using h
  | succ j ih =>
    have := mark_ok (markK s j) true _ ih
    exact this.mono (by omega)
theorem tick_ok (p : Pa) (k t : Int) (h : PaOk p k t) : PaOk (tickP p).1 k (t + 1) := by
  obtain ⟨h1, h2, h3, h4, h5, h6⟩ := h
  unfold tickP
  split
  · exact ⟨h1, h2, by simp only; omega, by simp only; omega, by simp only; omega, h6⟩
  · split
    · exact ⟨h1, h2, by simp only; omega, by simp only; omega, by simp only; omega, h6⟩
    · split
      · exact ⟨h1, h2, by simp only; omega, by simp only; omega, by simp only; omega, h6⟩
      · exact ⟨h1, h2, by simp only; omega, by simp only; omega, by simp only; omega, h6⟩
theorem newLost_le (s : Sn) (n : Nat) : newLost s n ≤ 64 := by unfold newLost; split <;> omega
theorem heard_ok (p : Pa) (n : Nat) (k t : Int) (h : PaOk p k t) (hn : n < 4294967296) (hk : 0 ≤ k) (ht : 0 ≤ t) : PaOk (heardP p n).1 (k + 1) t := by
  obtain ⟨h1, h2, h3, h4, h5, h6⟩ := h
  have hs := take_ok p.seen n k h2 hn hk
  have hl := newLost_le p.seen n
  unfold heardP
  split
  · exact ⟨(mark_ok _ _ _ (markK_ok p.s (newLost p.seen n) _ h1)).mono (by omega), hs, by simp only; omega, by simp only; omega, by simp only; omega, h6⟩
  · exact ⟨h1.mono (by omega), hs, by simp only; omega, by simp only; omega, by simp only; omega, h6⟩
theorem tripP_ok (p : Pa) (x : Int) (k t : Int) (h : PaOk p k t) : PaOk { p with s := tripS p.s x } (k + 1) t := by
  obtain ⟨h1, h2, h3, h4, h5, h6⟩ := h
  exact ⟨(trip_ok p.s x _ h1).mono (by omega), h2.mono (by omega), h3, h4, h5, h6⟩
theorem next_ok (p : Pa) (k t : Int) (h : PaOk p k t) : PaOk { p with next := nextU p.next } k t := by
  obtain ⟨h1, h2, h3, h4, h5, h6⟩ := h
  exact ⟨h1, h2, h3, h4, h5, Nat.mod_lt _ (by omega)⟩
theorem lost_le (s : Sn) (n : Nat) : s.any = true → s.lost ≤ (takeN s n).1.lost := by
  intro ha
  unfold takeN
  rw [if_neg (by simp [ha])]
  split
  · simp only; omega
  · split
    · exact Int.le_refl _
    · split <;> exact Int.le_refl _
end Go.Proofs.YtgdofgckjkmhjaaGreat
namespace Go.Proofs.YtgdofgckjkmhjaaGreat
open Go Go.RowKit
theorem rtake_any (n : Nat) (s : Sn) (w : World) (hs : SnOk s 100) (hn : n < 4294967296) :
    Calls Tryz.prog 65 #[.agg (rsc s).toArray, .int .u32 n] w fun e w' => e = .returned (.tuple #[.agg (rsc (takeN s n).1).toArray, .int .i64 (takeN s n).2]) ∧ Kept [] w w' := by
  obtain ⟨h1, h2, h3, h4, h5⟩ := hs
  cases ha : s.any
  · exact rtake_new n s w ha
  · by_cases h0 : 0 < behI n s.top
    · exact rtake_newer n s w ha h1 hn h0 h3.1 (by omega) h5.1 (by omega)
    · exact rtake_old n s w ha h1 hn h0 h3.1 (by omega) h4.1 (by omega)
theorem Part.sub {xs ys bs cs : List Value} {o : Nat} (h : Part xs o (ys ++ bs ++ cs)) : Part xs (o + ys.length) bs := by
  obtain ⟨h1, h2⟩ := h
  simp only [List.length_append] at h1 h2
  refine ⟨by omega, fun k hk => ?_⟩
  rw [Nat.add_assoc, h2 (ys.length + k) (by omega), List.getElem?_append_left (by simp; omega), List.getElem?_append_right (by omega)]
  congr 1
  omega
theorem setAll_sub {xs ys bs bs' cs : List Value} {o : Nat} (h : Part xs o (ys ++ bs ++ cs)) (hl : bs'.length = bs.length) : setAll xs (o + ys.length) bs' = setAll xs o (ys ++ bs' ++ cs) := by
  obtain ⟨h1, h2⟩ := h
  simp only [List.length_append] at h1 h2
  apply List.ext_getElem?
  intro i
  rw [setAll_get _ _ _ (by omega), setAll_get _ _ _ (by simp; omega)]
  by_cases hi : o ≤ i ∧ i < o + (ys.length + bs.length + cs.length)
  · rw [if_pos (show o ≤ i ∧ i < o + (ys ++ bs' ++ cs).length by simp; omega)]
    have e := h2 (i - o) (by omega)
    rw [show o + (i - o) = i by omega] at e
    by_cases ha : i - o < ys.length
    · rw [if_neg (by omega), e, List.append_assoc, List.append_assoc, List.getElem?_append_left ha, List.getElem?_append_left ha]
    · by_cases hb : i - o < ys.length + bs.length
      · rw [if_pos (by omega), List.getElem?_append_left (by simp; omega), List.getElem?_append_right (by omega)]
        congr 1
        omega
      · rw [if_neg (by omega), e, List.getElem?_append_right (by simp; omega), List.getElem?_append_right (by simp; omega)]
        simp [hl]
  · rw [if_neg (show ¬ (o ≤ i ∧ i < o + (ys ++ bs' ++ cs).length) by simp; omega), if_neg (by omega)]
def pac (p : Pa) : List Value := stc p.s ++ snc p.seen ++ [.int .i64 p.quiet, .int .i64 p.probe, .int .i64 p.gap, .int .u32 p.next]
theorem pac_s {xs : List Value} {o : Nat} {p : Pa} (h : Part xs o (pac p)) : Part xs o (stc p.s) :=
  Part.sub (ys := []) (bs := stc p.s) (cs := snc p.seen ++ [.int .i64 p.quiet, .int .i64 p.probe, .int .i64 p.gap, .int .u32 p.next]) (by simpa [pac] using h)
theorem pac_seen {xs : List Value} {o : Nat} {p : Pa} (h : Part xs o (pac p)) : Part xs (o + 5) (snc p.seen) := Part.sub (ys := stc p.s) h
theorem pac_set_s {xs : List Value} {o : Nat} {p : Pa} (h : Part xs o (pac p)) (s : St) : setAll xs o (stc s) = setAll xs o (pac { p with s := s }) := by
  have e := setAll_sub (ys := []) (bs := stc p.s) (bs' := stc s) (cs := snc p.seen ++ [.int .i64 p.quiet, .int .i64 p.probe, .int .i64 p.gap, .int .u32 p.next]) (o := o) (xs := xs) (by simpa [pac] using h) rfl
  simpa [pac] using e
theorem pac_set_seen {xs : List Value} {o : Nat} {p : Pa} (h : Part xs o (pac p)) (s : Sn) : setAll xs (o + 5) (snc s) = setAll xs o (pac { p with seen := s }) := setAll_sub (ys := stc p.s) (bs' := snc s) h rfl
theorem pac_len (p : Pa) : (pac p).length = 15 := rfl
theorem Blk.pset {w : World} {b o : Nat} {xs : List Value} {T : TypeId} {p p1 : Pa} (h : Blk w b (setAll xs o (pac p1)) T) (hp : Part xs o (pac p)) (k : Nat) (hk : k < 15) (v : Value) (p2 : Pa) (he : (pac p1).set k v = pac p2) : Blk (w.setCell ⟨b, o + k, none⟩ v) b (setAll xs o (pac p2)) T := by
  rw [← he]
  exact h.setp hp rfl k v hk
theorem Blk.pquiet {w : World} {b o : Nat} {xs : List Value} {T : TypeId} {p : Pa} {s : St} {sn : Sn} {q r g : Int} {n : Nat} (h : Blk w b (setAll xs o (pac ⟨s, sn, q, r, g, n⟩)) T) (hp : Part xs o (pac p)) (v : Int) : Blk (w.setCell ⟨b, o + 11, none⟩ (.int .i64 v)) b (setAll xs o (pac ⟨s, sn, v, r, g, n⟩)) T := h.pset hp 11 (by omega) _ _ rfl
theorem Blk.pprobe {w : World} {b o : Nat} {xs : List Value} {T : TypeId} {p : Pa} {s : St} {sn : Sn} {q r g : Int} {n : Nat} (h : Blk w b (setAll xs o (pac ⟨s, sn, q, r, g, n⟩)) T) (hp : Part xs o (pac p)) (v : Int) : Blk (w.setCell ⟨b, o + 12, none⟩ (.int .i64 v)) b (setAll xs o (pac ⟨s, sn, q, v, g, n⟩)) T := h.pset hp 12 (by omega) _ _ rfl
theorem Blk.pgap {w : World} {b o : Nat} {xs : List Value} {T : TypeId} {p : Pa} {s : St} {sn : Sn} {q r g : Int} {n : Nat} (h : Blk w b (setAll xs o (pac ⟨s, sn, q, r, g, n⟩)) T) (hp : Part xs o (pac p)) (v : Int) : Blk (w.setCell ⟨b, o + 13, none⟩ (.int .i64 v)) b (setAll xs o (pac ⟨s, sn, q, r, v, n⟩)) T := h.pset hp 13 (by omega) _ _ rfl
theorem Blk.pnext {w : World} {b o : Nat} {xs : List Value} {T : TypeId} {p : Pa} {s : St} {sn : Sn} {q r g : Int} {n : Nat} (h : Blk w b (setAll xs o (pac ⟨s, sn, q, r, g, n⟩)) T) (hp : Part xs o (pac p)) (v : Nat) : Blk (w.setCell ⟨b, o + 14, none⟩ (.int .u32 v)) b (setAll xs o (pac ⟨s, sn, q, r, g, v⟩)) T := h.pset hp 14 (by omega) _ _ rfl
set_option maxHeartbeats 400000 in
theorem state_any (b o : Nat) (xs : List Value) (T : TypeId) (p : Pa) (w : World) (hb : Blk w b xs T) (hp : Part xs o (pac p)) :
    Calls Tryz.prog 48 #[.pointer (some ⟨b, o, none⟩)] w fun e w' => e = .returned (.int .i64 (stateI p.quiet)) ∧ w = w' := by
  have c := hb.part hp 11 _ rfl
  clear hb hp
  rcases (show p.quiet < 20 ∨ (20 ≤ p.quiet ∧ p.quiet < 60) ∨ 60 ≤ p.quiet by omega) with h | ⟨h, h2⟩ | h
  · have z := Lib.hid (show stateI p.quiet = 0 by unfold stateI; rw [if_neg (by omega), if_neg (by omega)])
    go_enter Tryz.func48, Tryz.ntmps48
    go_wp2
    go_ret
    exact ⟨by rw [z.out]; rfl, rfl⟩
  · have z := Lib.hid (show stateI p.quiet = 1 by unfold stateI; rw [if_neg (by omega), if_pos (by omega)])
    go_enter Tryz.func48, Tryz.ntmps48
    go_wp2
    go_ret
    exact ⟨by rw [z.out]; rfl, rfl⟩
  · have z := Lib.hid (show stateI p.quiet = 2 by unfold stateI; rw [if_pos (by omega)])
    go_enter Tryz.func48, Tryz.ntmps48
    go_wp2
    go_ret
    exact ⟨by rw [z.out]; rfl, rfl⟩
theorem stateI_0 (q : Int) (h : q < 20) : stateI q = 0 := by unfold stateI; rw [if_neg (by omega), if_neg (by omega)]
theorem stateI_1 (q : Int) (h : 20 ≤ q) : (stateI q == 0) = false := by
  rw [beq_eq_false_iff_ne]
  unfold stateI
  rw [if_pos h]
  split <;> omega
/-- A fact that no tactic of the walk looks into ('Hid' is a plain definition: 'contradiction' opens it). -/
structure Hx (p : Prop) : Prop where
  out : p
theorem hx {p : Prop} (h : p) : Hx p := ⟨h⟩
set_option maxHeartbeats 1600000 in
theorem tick_any (b o : Nat) (xs : List Value) (T : TypeId) (p : Pa) (w : World) (hb : Blk w b xs T) (hp : Part xs o (pac p)) (hq0 : 0 ≤ p.quiet) (hq1 : p.quiet ≤ 1000000) (hg0 : 0 ≤ p.gap) (hg1 : p.gap ≤ 80) (hr0 : 0 ≤ p.probe) (hr1 : p.probe ≤ 80) :
    Calls Tryz.prog 62 #[.pointer (some ⟨b, o, none⟩)] w fun e w' => e = .returned (.bool (tickP p).2) ∧ Blk w' b (setAll xs o (pac (tickP p).1)) T ∧ Kept [b] w w' := by
  have c11 := hb.part hp 11 _ rfl
  have c12 := hb.part hp 12 _ rfl
  have c13 := hb.part hp 13 _ rfl
  have hf := hb.free
  have hb' : Blk w b (setAll xs o (pac p)) T := by rw [hp.self]; exact hb
  have b1 : Blk _ b (setAll xs o (pac ⟨p.s, p.seen, p.quiet + 1, p.probe, p.gap, p.next⟩)) T := Blk.pquiet (s := p.s) (sn := p.seen) (q := p.quiet) (r := p.probe) (g := p.gap) (n := p.next) hb' hp (p.quiet + 1)
  have k1 := (Kept.refl [b] w).setCell (p := ⟨b, o + 11, none⟩) (.inl (by simp)) (.int .i64 (p.quiet + 1))
  have HS := hx (state_any b o _ T ⟨p.s, p.seen, p.quiet + 1, p.probe, p.gap, p.next⟩ _ b1 (hp.setAll _ rfl))
  dsimp only at HS
  by_cases h1 : p.quiet + 1 < 20
  · have z := hx (show tickP p = ({ p with quiet := p.quiet + 1, probe := 0, gap := 0 }, false) by unfold tickP; rw [if_pos h1])
    rw [stateI_0 _ h1] at HS
    have E := hx (show Blk _ b (setAll xs o (pac ⟨p.s, p.seen, p.quiet + 1, 0, 0, p.next⟩)) T from (b1.pprobe hp 0).pgap hp 0)
    have K := hx ((k1.setCell (p := ⟨b, o + 12, none⟩) (.inl (by simp)) (.int .i64 0)).setCell (p := ⟨b, o + 13, none⟩) (.inl (by simp)) (.int .i64 0))
    clear hb hp hb' b1 k1
    go_enter Tryz.func62, Tryz.ntmps62
    go_wp2_with fail
    refine HS.out.mono ?_
    rintro e w1 ⟨rfl, rfl⟩
    go_wp2
    go_ret
    exact ⟨by rw [z.out]; rfl, by rw [z.out]; exact E.out, K.out⟩
  · have s1 := stateI_1 (p.quiet + 1) (by omega)
    generalize stateI (p.quiet + 1) = y at *
    by_cases h2 : p.gap = 0
    · have z := hx (show tickP p = ({ p with quiet := p.quiet + 1, probe := 5, gap := 10 }, true) by unfold tickP; rw [if_neg h1, if_pos h2])
      have e1 := (b1.pgap hp 5).pprobe hp 1
      have d12 := e1.part (hp.setAll _ rfl) 12 (.int .i64 1) rfl
      have d13 := e1.part (hp.setAll _ rfl) 13 (.int .i64 5) rfl
      have df := e1.free
      have E := hx (show Blk _ b (setAll xs o (pac ⟨p.s, p.seen, p.quiet + 1, 5, 10, p.next⟩)) T from ((e1.pprobe hp 0).pprobe hp 5).pgap hp 10)
      have K := hx (((((k1.setCell (p := ⟨b, o + 13, none⟩) (.inl (by simp)) (.int .i64 5)).setCell (p := ⟨b, o + 12, none⟩) (.inl (by simp)) (.int .i64 1)).setCell (p := ⟨b, o + 12, none⟩) (.inl (by simp)) (.int .i64 0)).setCell (p := ⟨b, o + 12, none⟩) (.inl (by simp)) (.int .i64 5)).setCell (p := ⟨b, o + 13, none⟩) (.inl (by simp)) (.int .i64 10))
      rw [h2] at c13
      clear hb hp hb' b1 k1 h2 e1
      have D := hx (And.intro d12 (And.intro d13 df))
      clear d12 d13 df
      go_enter Tryz.func62, Tryz.ntmps62
      go_wp2_with fail
      refine HS.out.mono ?_
      rintro e w1 ⟨rfl, rfl⟩
      go_upto_region 8 with fail
      clear c11 c12 c13 hf HS
      obtain ⟨d12, d13, df⟩ := D.out
      clear D
      generalize ((w.setCell ⟨b, o + 11, none⟩ (.int .i64 (p.quiet + 1))).setCell ⟨b, o + 13, none⟩ (.int .i64 5)).setCell ⟨b, o + 12, none⟩ (.int .i64 1) = W2 at *
      go_wp2
      go_ret
      exact ⟨by rw [z.out]; rfl, by rw [z.out]; exact E.out, K.out⟩
    · have s2 : (p.gap == 0) = false := by rw [beq_eq_false_iff_ne]; exact h2
      have b2 := b1.pprobe hp (p.probe - 1)
      have k2 := k1.setCell (p := ⟨b, o + 12, none⟩) (.inl (by simp)) (.int .i64 (p.probe - 1))
      by_cases h3 : 1 < p.probe
      · have z := hx (show tickP p = ({ p with quiet := p.quiet + 1, probe := p.probe - 1 }, false) by unfold tickP; rw [if_neg h1, if_neg h2, if_pos h3])
        have E := hx (show Blk _ b (setAll xs o (pac ⟨p.s, p.seen, p.quiet + 1, p.probe - 1, p.gap, p.next⟩)) T from b2)
        have K := hx k2
        clear hb hp hb' b1 k1 b2 k2
        go_enter Tryz.func62, Tryz.ntmps62
        go_wp2_with fail
        refine HS.out.mono ?_
        rintro e w1 ⟨rfl, rfl⟩
        go_wp2
        go_ret
        exact ⟨by rw [z.out]; rfl, by rw [z.out]; exact E.out, K.out⟩
      · by_cases h4 : 80 < 2 * p.gap
        · have z := hx (show tickP p = ({ p with quiet := p.quiet + 1, probe := p.gap, gap := 80 }, true) by
            unfold tickP; rw [if_neg h1, if_neg h2, if_neg h3, show min (2 * p.gap) 80 = 80 by omega])
          have E := hx (show Blk _ b (setAll xs o (pac ⟨p.s, p.seen, p.quiet + 1, p.gap, 80, p.next⟩)) T from (b2.pprobe hp p.gap).pgap hp (80))
          have K := hx ((k2.setCell (p := ⟨b, o + 12, none⟩) (.inl (by simp)) (.int .i64 p.gap)).setCell (p := ⟨b, o + 13, none⟩) (.inl (by simp)) (.int .i64 (80)))
          clear hb hp hb' b1 k1 b2 k2
          go_enter Tryz.func62, Tryz.ntmps62
          go_wp2_with fail
          refine HS.out.mono ?_
          rintro e w1 ⟨rfl, rfl⟩
          go_wp2
          go_ret
          exact ⟨by rw [z.out]; rfl, by rw [z.out]; exact E.out, K.out⟩
        · have z := hx (show tickP p = ({ p with quiet := p.quiet + 1, probe := p.gap, gap := 2 * p.gap }, true) by
            unfold tickP; rw [if_neg h1, if_neg h2, if_neg h3, show min (2 * p.gap) 80 = 2 * p.gap by omega])
          have E := hx (show Blk _ b (setAll xs o (pac ⟨p.s, p.seen, p.quiet + 1, p.gap, 2 * p.gap, p.next⟩)) T from (b2.pprobe hp p.gap).pgap hp (2 * p.gap))
          have K := hx ((k2.setCell (p := ⟨b, o + 12, none⟩) (.inl (by simp)) (.int .i64 p.gap)).setCell (p := ⟨b, o + 13, none⟩) (.inl (by simp)) (.int .i64 (2 * p.gap)))
          clear hb hp hb' b1 k1 b2 k2
          go_enter Tryz.func62, Tryz.ntmps62
          go_wp2_with fail
          refine HS.out.mono ?_
          rintro e w1 ⟨rfl, rfl⟩
          go_wp2
          go_ret
          exact ⟨by rw [z.out]; rfl, by rw [z.out]; exact E.out, K.out⟩
end Go.Proofs.YtgdofgckjkmhjaaGreat
namespace Go.Proofs.YtgdofgckjkmhjaaGreat
open Go Go.RowKit
set_option maxHeartbeats 400000 in
theorem number_any (b o : Nat) (xs : List Value) (T : TypeId) (p : Pa) (w : World) (hb : Blk w b xs T) (hp : Part xs o (pac p)) (hn : p.next < 4294967296) :
    Calls Tryz.prog 50 #[.pointer (some ⟨b, o, none⟩)] w fun e w' => e = .returned (.int .u32 p.next) ∧ Blk w' b (setAll xs o (pac { p with next := nextU p.next })) T ∧ Kept [b] w w' := by
  have c14 := hb.part hp 14 _ rfl
  have hf := hb.free
  have hb' : Blk w b (setAll xs o (pac p)) T := by rw [hp.self]; exact hb
  have E := hx (show Blk _ b (setAll xs o (pac { p with next := nextU p.next })) T from Blk.pnext (s := p.s) (sn := p.seen) (q := p.quiet) (r := p.probe) (g := p.gap) (n := p.next) hb' hp (nextU p.next))
  have K := hx ((Kept.refl [b] w).setCell (p := ⟨b, o + 14, none⟩) (.inl (by simp)) (.int .u32 (nextU p.next)))
  have hN := hx (show (((p.next : Int) + 1) % 4294967296 : Int) = ((nextU p.next : Nat) : Int) by unfold nextU; omega)
  clear hb hp hb'
  go_enter Tryz.func50, Tryz.ntmps50
  go_wp2
  go_ret
  have h := hN.out
  refine ⟨rfl, ?_, ?_⟩
  · have e := E.out
    rw [← h] at e
    exact e
  · have e := K.out
    rw [← h] at e
    exact e
end Go.Proofs.YtgdofgckjkmhjaaGreat
namespace Go.Proofs.YtgdofgckjkmhjaaGreat
open Go Go.RowKit
theorem take_code (s : Sn) (n : Nat) : (takeN s n).2 = 0 ∨ (takeN s n).2 = 90 ∨ (takeN s n).2 = 171 := by
  unfold takeN
  repeat' split
  all_goals simp
theorem pac_st {xs : List Value} {o : Nat} {p : Pa} (h : Part xs o (pac p)) : Part xs (o + 0) (stc p.s) := pac_s h
theorem pac_twice {xs : List Value} {o : Nat} {p : Pa} (h : Part xs o (pac p)) (p1 p2 : Pa) : setAll (setAll xs o (pac p1)) o (pac p2) = setAll xs o (pac p2) := setAll_twice h.1 rfl
set_option maxHeartbeats 1600000 in
theorem heard_any (b o n : Nat) (xs : List Value) (T : TypeId) (p : Pa) (w : World) (hb : Blk w b xs T) (hp : Part xs o (pac p)) (hs : StOk p.s 900000) (hsn : SnOk p.seen 100) (hn : n < 4294967296) :
    Calls Tryz.prog 64 #[.pointer (some ⟨b, o, none⟩), .int .u32 n] w fun e w' => e = .returned (.int .i64 (heardP p n).2) ∧ Blk w' b (setAll xs o (pac (heardP p n).1)) T ∧ Kept [b] w w' := by
  have c5 := hb.part (pac_seen hp) 0 (.bool p.seen.any) rfl
  have c10 := hb.part (pac_seen hp) 5 (.int .i64 p.seen.lost) rfl
  have hf := hb.free
  have HS := hx (fun w1 (h : Blk w1 b xs T) => stake_any b (o + 5) n xs T p.seen w1 h (pac_seen hp) hsn hn)
  have HB := hx hb
  have HSE := hx (fun s => pac_set_seen hp s)
  have HP := hx hp
  have HTW := hx (fun p1 p2 => pac_twice hp p1 p2)
  have hcode := take_code p.seen n
  obtain ⟨c, hc⟩ : ∃ c, c = (takeN p.seen n).2 := ⟨_, rfl⟩
  obtain ⟨s', hs'⟩ : ∃ s', s' = (takeN p.seen n).1 := ⟨_, rfl⟩
  have hok := take_ok p.seen n 100 hsn hn (by omega)
  rw [← hc] at HS hcode
  rw [← hs'] at HS hok
  have HC := hx hc
  have HS' := hx hs'
  have HOK := hx (And.intro hs (And.intro hsn hok))
  clear hb hp hc hs' hok hs hsn
  go_enter Tryz.func64, Tryz.ntmps64
  rw [Nat.add_zero] at c5
  go_upto_region 1 with fail
  go_region
  trace "R"
  go_wp2_with fail
  refine (HS.out _ HB.out.drew).mono ?_
  rintro e w2 ⟨rfl, hb2, hk2⟩
  clear c5 c10 hf HS HB
  rw [HSE.out] at hb2
  have hk2 : Kept [b] w w2 := (Kept.refl _ _).drew.trans1 hk2
  have hp2 : Part (setAll xs o (pac { p with seen := s' })) o (pac { p with seen := s' }) := HP.out.setAll _ rfl
  have c11 := hb2.part hp2 11 _ rfl
  have c12 := hb2.part hp2 12 _ rfl
  have c13 := hb2.part hp2 13 _ rfl
  have hf := hb2.free
  have e3 : Blk _ b (setAll xs o (pac ⟨p.s, s', 0, 0, 0, p.next⟩)) T := ((Blk.pquiet (s := p.s) (sn := s') (q := p.quiet) (r := p.probe) (g := p.gap) (n := p.next) hb2 HP.out 0).pprobe HP.out 0).pgap HP.out 0
  have E3 := hx e3
  have K3 := hx (((hk2.setCell (p := ⟨b, o + 11, none⟩) (.inl (by simp)) (.int .i64 0)).setCell (p := ⟨b, o + 12, none⟩) (.inl (by simp)) (.int .i64 0)).setCell (p := ⟨b, o + 13, none⟩) (.inl (by simp)) (.int .i64 0))
  clear e3 hb2 hp2 hk2
  go_upto_region 4 with fail
  generalize ((w2.setCell ⟨b, o + 11, none⟩ (.int .i64 0)).setCell ⟨b, o + 12, none⟩ (.int .i64 0)).setCell ⟨b, o + 13, none⟩ (.int .i64 0) = W3 at *
  clear c11 c12 c13 hf
  by_cases h0 : c = 0
  · have z := hx (show heardP p n = (⟨markS (markK p.s (newLost p.seen n)) false, s', 0, 0, 0, p.next⟩, 0) by unfold heardP; rw [if_pos (by rw [← HC.out]; exact h0), HS'.out])
    have hb3 := E3.out
    have hp3 : Part (setAll xs o (pac ⟨p.s, s', 0, 0, 0, p.next⟩)) o (pac ⟨p.s, s', 0, 0, 0, p.next⟩) := HP.out.setAll _ rfl
    have c10 := hb3.part (pac_seen hp3) 5 (.int .i64 s'.lost) rfl
    have l1 : 0 ≤ p.seen.lost := HOK.out.2.1.lost.1
    have l2 : p.seen.lost.toNat ≤ 1000000000000 := by have := HOK.out.2.1.lost.2; omega
    have l3 : 0 ≤ s'.lost := HOK.out.2.2.lost.1
    have l4 : s'.lost.toNat ≤ 1000000000000 := by have := HOK.out.2.2.lost.2; omega
    have HA := hx (show p.seen.any = false → s'.lost = 0 by intro h; rw [HS'.out]; unfold takeN; rw [if_pos h])
    have HB2 := hx (show p.seen.any = true → p.seen.lost ≤ s'.lost by intro h; rw [HS'.out]; exact lost_le _ _ h)
    have HNL := hx (show newLost p.seen n = if p.seen.any then (min (s'.lost - p.seen.lost) 64).toNat else 0 by rw [HS'.out]; rfl)
    clear hb3 hp3 hcode
    subst h0
    by_cases h64 : 64 < s'.lost - p.seen.lost
    · obtain ⟨R, hR⟩ : ∃ R : Int, R = 64 := ⟨_, rfl⟩
      have HR2 := hx (show p.seen.any = true → R = (newLost p.seen n : Nat) by intro h; rw [HNL.out, if_pos h]; omega)
      have HR3 := hx (show R ≤ (newLost p.seen n : Nat) by
        cases h : p.seen.any
        · have := HA.out h; omega
        · have := HR2.out h; omega)
      have HN := hx hR
      clear hR
      go_wp2
      rw [← HN.out]
      go_loopw [43] (fun iv wr => ∃ i : Nat, i ≤ newLost p.seen n ∧ iv = .int .i64 i ∧ Blk wr b (setAll xs o (pac ⟨markK p.s i, s', 0, 0, 0, p.next⟩)) T ∧ Kept [b] w wr) (fun iv _ => newLost p.seen n - (intOf iv).toNat)
      case atStart => exact ⟨0, by omega, rfl, E3.out, K3.out⟩
      case round =>
        clear E3 K3 HN
        obtain ⟨i, hi, rfl, hbr, hkr⟩ := hrel
        have hpr : Part (setAll xs o (pac ⟨markK p.s i, s', 0, 0, 0, p.next⟩)) o (pac ⟨markK p.s i, s', 0, 0, 0, p.next⟩) := HP.out.setAll _ rfl
        have hl64 := newLost_le p.seen n
        have hmk : StOk (markK p.s i) 1000000 := (markK_ok p.s i _ HOK.out.1).mono (by omega)
        have HM := hx (fun m => mark_any b o _ T (markK p.s i) m wr hbr (pac_s hpr) hmk)
        have HSS := hx (fun s => pac_set_s hpr s)
        have HKR := hx hkr
        by_cases hlt : i < newLost p.seen n
        · have hany : p.seen.any = true := by
            cases h : p.seen.any
            · exfalso; unfold newLost at hlt; rw [h] at hlt; simp at hlt
            · rfl
          have hiR : (i : Int) < R := by have := HR2.out hany; omega
          rw [hany]
          go_wp2_with fail
          refine (HM.out true).mono ?_
          rintro e w5 ⟨rfl, hb5, hk5⟩
          rw [HSS.out] at hb5
          rw [HTW.out] at hb5
          have hk6 := hx (HKR.out.trans1 hk5)
          have hb6 := hx hb5
          clear hk5 hb5
          go_wp2
          go_roundw
          case rel => exact ⟨i + 1, by omega, by go_num, hb6.out, hk6.out⟩
          case measure => simp [intOf] <;> omega
        · obtain rfl : i = newLost p.seen n := by omega
          have hiR : ¬ (((newLost p.seen n : Nat) : Int) < R) := by have := HR3.out; omega
          go_wp2_with fail
          refine (HM.out false).mono ?_
          rintro e w5 ⟨rfl, hb5, hk5⟩
          rw [HSS.out] at hb5
          rw [HTW.out] at hb5
          have hk6 := hx (HKR.out.trans1 hk5)
          have hb6 := hx hb5
          clear hk5 hb5
          go_wp2
          go_ret
          exact ⟨by rw [z.out]; rfl, by rw [z.out]; exact hb6.out, hk6.out⟩
    · obtain ⟨R, hR⟩ : ∃ R : Int, R = s'.lost - p.seen.lost := ⟨_, rfl⟩
      have HR2 := hx (show p.seen.any = true → R = (newLost p.seen n : Nat) by intro h; rw [HNL.out, if_pos h]; have := HB2.out h; omega)
      have HR3 := hx (show R ≤ (newLost p.seen n : Nat) by
        cases h : p.seen.any
        · have := HA.out h; omega
        · have := HR2.out h; omega)
      have HN := hx hR
      clear hR
      go_wp2
      rw [← HN.out]
      go_loopw [43] (fun iv wr => ∃ i : Nat, i ≤ newLost p.seen n ∧ iv = .int .i64 i ∧ Blk wr b (setAll xs o (pac ⟨markK p.s i, s', 0, 0, 0, p.next⟩)) T ∧ Kept [b] w wr) (fun iv _ => newLost p.seen n - (intOf iv).toNat)
      case atStart => exact ⟨0, by omega, rfl, E3.out, K3.out⟩
      case round =>
        clear E3 K3 HN
        obtain ⟨i, hi, rfl, hbr, hkr⟩ := hrel
        have hpr : Part (setAll xs o (pac ⟨markK p.s i, s', 0, 0, 0, p.next⟩)) o (pac ⟨markK p.s i, s', 0, 0, 0, p.next⟩) := HP.out.setAll _ rfl
        have hl64 := newLost_le p.seen n
        have hmk : StOk (markK p.s i) 1000000 := (markK_ok p.s i _ HOK.out.1).mono (by omega)
        have HM := hx (fun m => mark_any b o _ T (markK p.s i) m wr hbr (pac_s hpr) hmk)
        have HSS := hx (fun s => pac_set_s hpr s)
        have HKR := hx hkr
        by_cases hlt : i < newLost p.seen n
        · have hany : p.seen.any = true := by
            cases h : p.seen.any
            · exfalso; unfold newLost at hlt; rw [h] at hlt; simp at hlt
            · rfl
          have hiR : (i : Int) < R := by have := HR2.out hany; omega
          rw [hany]
          go_wp2_with fail
          refine (HM.out true).mono ?_
          rintro e w5 ⟨rfl, hb5, hk5⟩
          rw [HSS.out] at hb5
          rw [HTW.out] at hb5
          have hk6 := hx (HKR.out.trans1 hk5)
          have hb6 := hx hb5
          clear hk5 hb5
          go_wp2
          go_roundw
          case rel => exact ⟨i + 1, by omega, by go_num, hb6.out, hk6.out⟩
          case measure => simp [intOf] <;> omega
        · obtain rfl : i = newLost p.seen n := by omega
          have hiR : ¬ (((newLost p.seen n : Nat) : Int) < R) := by have := HR3.out; omega
          go_wp2_with fail
          refine (HM.out false).mono ?_
          rintro e w5 ⟨rfl, hb5, hk5⟩
          rw [HSS.out] at hb5
          rw [HTW.out] at hb5
          have hk6 := hx (HKR.out.trans1 hk5)
          have hb6 := hx hb5
          clear hk5 hb5
          go_wp2
          go_ret
          exact ⟨by rw [z.out]; rfl, by rw [z.out]; exact hb6.out, hk6.out⟩
  · have z := hx (show heardP p n = (⟨p.s, s', 0, 0, 0, p.next⟩, c) by unfold heardP; rw [if_neg (by rw [← HC.out]; exact h0), HS'.out, HC.out])
    have h1 : (c != 0) = true := by simp [bne, h0]
    clear h0
    go_wp2
    go_ret
    exact ⟨by rw [z.out]; rfl, by rw [z.out]; exact E3.out, K3.out⟩
end Go.Proofs.YtgdofgckjkmhjaaGreat
namespace Go.Proofs.YtgdofgckjkmhjaaGreat
open Go Go.RowKit
def tl4 (p : Pa) : List Value := [.int .i64 p.quiet, .int .i64 p.probe, .int .i64 p.gap, .int .u32 p.next]
def rpc (p : Pa) : List Value := stc p.s ++ rsc p.seen ++ tl4 p
theorem rpc_len (p : Pa) : (rpc p).length = 78 := by simp [rpc, rsc_len, stc, tl4]
theorem rpc_tail (p : Pa) (j : Nat) (hj : j < 4) : (rpc p)[74 + j]? = (tl4 p)[j]? := by
  unfold rpc
  rw [List.getElem?_append_right (by simp [rsc_len, stc])]
  simp only [List.length_append, rsc_len]
  rw [show 74 + j - ((stc p.s).length + 69) = j by simp [stc]]
theorem rpc_setT (p : Pa) (j : Nat) (v : Value) : (rpc p).set (74 + j) v = stc p.s ++ rsc p.seen ++ (tl4 p).set j v := by
  unfold rpc
  rw [List.set_append_right _ _ (by simp [rsc_len, stc])]
  simp only [List.length_append, rsc_len]
  rw [show 74 + j - ((stc p.s).length + 69) = j by simp [stc]]
theorem rset_quiet (s : St) (sn : Sn) (q r g : Int) (n : Nat) (v : Int) : (rpc ⟨s, sn, q, r, g, n⟩).set 74 (.int .i64 v) = rpc ⟨s, sn, v, r, g, n⟩ := rpc_setT _ 0 _
theorem rset_probe (s : St) (sn : Sn) (q r g : Int) (n : Nat) (v : Int) : (rpc ⟨s, sn, q, r, g, n⟩).set 75 (.int .i64 v) = rpc ⟨s, sn, q, v, g, n⟩ := rpc_setT _ 1 _
theorem rset_gap (s : St) (sn : Sn) (q r g : Int) (n : Nat) (v : Int) : (rpc ⟨s, sn, q, r, g, n⟩).set 76 (.int .i64 v) = rpc ⟨s, sn, q, r, v, n⟩ := rpc_setT _ 2 _
theorem rset_next (s : St) (sn : Sn) (q r g : Int) (n : Nat) (v : Nat) : (rpc ⟨s, sn, q, r, g, n⟩).set 77 (.int .u32 v) = rpc ⟨s, sn, q, r, g, v⟩ := rpc_setT _ 3 _
theorem Blk.rquiet {w : World} {b : Nat} {T : TypeId} {s : St} {sn : Sn} {q r g : Int} {n : Nat} (h : Blk w b (rpc ⟨s, sn, q, r, g, n⟩) T) (v : Int) : Blk (w.setCell ⟨b, 74, none⟩ (.int .i64 v)) b (rpc ⟨s, sn, v, r, g, n⟩) T := by
  have e := h.set 74 (.int .i64 v); rwa [rset_quiet] at e
theorem Blk.rprobe {w : World} {b : Nat} {T : TypeId} {s : St} {sn : Sn} {q r g : Int} {n : Nat} (h : Blk w b (rpc ⟨s, sn, q, r, g, n⟩) T) (v : Int) : Blk (w.setCell ⟨b, 75, none⟩ (.int .i64 v)) b (rpc ⟨s, sn, q, v, g, n⟩) T := by
  have e := h.set 75 (.int .i64 v); rwa [rset_probe] at e
theorem Blk.rgap {w : World} {b : Nat} {T : TypeId} {s : St} {sn : Sn} {q r g : Int} {n : Nat} (h : Blk w b (rpc ⟨s, sn, q, r, g, n⟩) T) (v : Int) : Blk (w.setCell ⟨b, 76, none⟩ (.int .i64 v)) b (rpc ⟨s, sn, q, r, v, n⟩) T := by
  have e := h.set 76 (.int .i64 v); rwa [rset_gap] at e
theorem Blk.rnext {w : World} {b : Nat} {T : TypeId} {s : St} {sn : Sn} {q r g : Int} {n : Nat} (h : Blk w b (rpc ⟨s, sn, q, r, g, n⟩) T) (v : Nat) : Blk (w.setCell ⟨b, 77, none⟩ (.int .u32 v)) b (rpc ⟨s, sn, q, r, g, v⟩) T := by
  have e := h.set 77 (.int .u32 v); rwa [rset_next] at e
theorem infoRp : (Tryz.prog.info? 34).map (·.size) = some 78 := by kernel_rfl
theorem infoRpn (p : Pa) : (Tryz.prog.info? 34).map (·.size) = some (rpc p).length := by rw [rpc_len]; exact infoRp
theorem zeroRp (w : World) : (zeroValue 34).run Tryz.prog w = .ok (.agg (rpc pa0).toArray) w := by kernel_rfl
theorem zeroRp' : ∃ Z : Array Value, Z.toList = rpc pa0 ∧ ∀ w, (zeroValue 34).run Tryz.prog w = .ok (.agg Z) w := ⟨_, rfl, zeroRp⟩
theorem rpc_one (p : Pa) : ∀ v ∈ rpc p, v.oneCell' = true := by
  intro v hv
  simp only [rpc, tl4, List.mem_append, List.mem_cons, List.not_mem_nil, or_false] at hv
  rcases hv with (hv | hv) | rfl | rfl | rfl | rfl
  · exact stc_one _ v hv
  · exact rsc_one _ v hv
  all_goals rfl
theorem rpc_s (p : Pa) : Part (rpc p) 0 (stc p.s) := by
  have h : Part (rpc p) 0 ([] ++ stc p.s ++ (rsc p.seen ++ tl4 p)) := ⟨by simp [rpc], fun k _ => by simp [rpc]⟩
  exact h.sub
theorem rpc_seen (p : Pa) : Part (rpc p) 5 (rsc p.seen) := by
  have h : Part (rpc p) 0 (stc p.s ++ rsc p.seen ++ tl4 p) := ⟨by simp [rpc], fun k _ => by simp [rpc]⟩
  exact h.sub
theorem rpc_set_s (p : Pa) (s : St) : setAll (rpc p) 0 (stc s) = rpc { p with s := s } := by
  have h : Part (rpc p) 0 ([] ++ stc p.s ++ (rsc p.seen ++ tl4 p)) := ⟨by simp [rpc], fun k _ => by simp [rpc]⟩
  have e := setAll_sub (bs' := stc s) h rfl
  rw [List.length_nil] at e
  rw [e, setAll_all _ _ (by simp [rpc, stc, rsc_len, tl4])]
  simp [rpc, tl4]
theorem rpc_set_seen (p : Pa) (s : Sn) : setAll (rpc p) 5 (rsc s) = rpc { p with seen := s } := by
  have h : Part (rpc p) 0 (stc p.s ++ rsc p.seen ++ tl4 p) := ⟨by simp [rpc], fun k _ => by simp [rpc]⟩
  have e := setAll_sub (bs' := rsc s) h (by rw [rsc_len, rsc_len])
  have e2 : 0 + (stc p.s).length = 5 := rfl
  rw [e2] at e
  rw [e, setAll_all _ _ (by simp [rpc, stc, rsc_len, tl4])]
  simp [rpc, tl4]
set_option maxHeartbeats 400000 in
theorem rstate_any (p : Pa) (w : World) :
    Calls Tryz.prog 53 #[.agg (rpc p).toArray] w fun e w' => e = .returned (.int .i64 (stateI p.quiet)) ∧ Kept [] w w' := by
  have hb := Blk.new w (rpc p) 34
  have c := hb.cell (rpc_tail p 0 (by omega))
  clear hb
  rcases (show p.quiet < 20 ∨ (20 ≤ p.quiet ∧ p.quiet < 60) ∨ 60 ≤ p.quiet by omega) with h | ⟨h, h2⟩ | h
  · have z := hx (show stateI p.quiet = 0 by unfold stateI; rw [if_neg (by omega), if_neg (by omega)])
    go_enter Tryz.func53, Tryz.ntmps53
    go_wp2
    go_ret
    exact ⟨by rw [z.out]; rfl, (Kept.refl _ _).alloc _⟩
  · have z := hx (show stateI p.quiet = 1 by unfold stateI; rw [if_neg (by omega), if_pos (by omega)])
    go_enter Tryz.func53, Tryz.ntmps53
    go_wp2
    go_ret
    exact ⟨by rw [z.out]; rfl, (Kept.refl _ _).alloc _⟩
  · have z := hx (show stateI p.quiet = 2 by unfold stateI; rw [if_pos (by omega)])
    go_enter Tryz.func53, Tryz.ntmps53
    go_wp2
    go_ret
    exact ⟨by rw [z.out]; rfl, (Kept.refl _ _).alloc _⟩
end Go.Proofs.YtgdofgckjkmhjaaGreat
namespace Go.Proofs.YtgdofgckjkmhjaaGreat
open Go Go.RowKit
theorem wrd_lt (bits k : Nat) (h : bits < 18446744073709551616) (hk : 1 ≤ k) : wrd bits k < 9223372036854775808 := by
  unfold wrd
  have h2 : 2 ^ 1 ≤ 2 ^ k := Nat.pow_le_pow_right (by omega) hk
  have := Nat.div_le_div_left h2 (show 0 < 2 ^ 1 by omega) (a := bits)
  omega
set_option maxRecDepth 100000 in
set_option maxHeartbeats 1600000 in
theorem rbits_any (s : Sn) (w : World) (h : s.bits < 18446744073709551616) :
    Calls Tryz.prog 77 #[.agg (rsc s).toArray] w fun e w' => e = .returned (.int .u64 s.bits) ∧ Kept [] w w' := by
  have HBB := hx h
  have hb := Blk.new w (rsc s) 32
  have HB := hx hb
  have hk := hx ((Kept.refl [] w).alloc (.cells (rsc s).toArray 32))
  clear h hb
  go_enter Tryz.func77, Tryz.ntmps77
  go_upto_region 1 with fail
  generalize w.alloc (.cells (rsc s).toArray 32) = W at *
  have hsz := HB.out.lt
  go_wp2
  go_loopw [3, 4] (fun vv iv wr => ∃ m : Nat, m ≤ 64 ∧ iv = .int .i64 ((m : Int) - 1) ∧ vv = .int .u64 ((wrd s.bits m : Nat) : Int) ∧ wr = W) (fun _ iv _ => (intOf iv + 1).toNat)
  case atStart => exact ⟨64, by omega, rfl, by rw [wrd_64 _ HBB.out]; rfl, rfl⟩
  case round =>
    obtain ⟨m, hm, rfl, rfl, rfl⟩ := hrel
    by_cases h0 : m = 0
    · subst h0
      have hw := hx (wrd_0 s.bits)
      have g1 : decide ((0 : Int) ≤ ((0 : Nat) : Int) - 1) = false := by decide
      go_wp2
      go_ret
      exact ⟨by simp only [hw.out]; rfl, hk.out⟩
    · obtain ⟨k, rfl⟩ : ∃ k, m = k + 1 := ⟨m - 1, by omega⟩
      have hst := hx (wrd_step s.bits k)
      have hlt := wrd_lt s.bits (k + 1) HBB.out (by omega)
      have hk0 : (0 : Int) ≤ (k : Int) := by omega
      have e1 : ((k + 1 : Nat) : Int) - 1 = (k : Int) := by omega
      have hk64 : (k : Int) < 64 := by omega
      have ck := HB.out.cell (rsc_mark s k (by omega))
      generalize wrd s.bits (k + 1) = x at *
      have HL := hx hlt
      have hx2 : (x : Int) * 2 % 18446744073709551616 = (x : Int) * 2 := by omega
      rw [e1]
      clear h0 e1
      cases hbit : s.bits.testBit k
      · have hv := hx (show ((x : Int) * 2) = ((wrd s.bits k : Nat) : Int) by rw [hst.out, hbit]; simp; omega)
        rw [hbit] at ck
        go_wp2
        go_roundw
        case rel => exact ⟨k, by omega, by go_num, by rw [← hv.out], trivial⟩
        case measure => simp [intOf] <;> omega
      · have hv := hx (show ((x : Int) * 2 + 1) = ((wrd s.bits k : Nat) : Int) by rw [hst.out, hbit]; simp; omega)
        have hx3 : ((x : Int) * 2 + 1) % 18446744073709551616 = (x : Int) * 2 + 1 := by omega
        rw [hbit] at ck
        go_wp2
        go_roundw
        case rel => exact ⟨k, by omega, by go_num, by rw [← hv.out], trivial⟩
        case measure => simp [intOf] <;> omega
end Go.Proofs.YtgdofgckjkmhjaaGreat
namespace Go.Proofs.YtgdofgckjkmhjaaGreat
open Go Go.RowKit
/-! A part of a block loaded in a region that draws its order, or under a guard: the load as a function of the world. -/
def midOf (w : World) (b o n : Nat) : Array Value := match w.heap[b]? with | some (.cells c _ _) => ((c.toList.drop o).take n).toArray | _ => #[]
def hasMid (w : World) (b o n : Nat) : Bool := match w.heap[b]? with | some (.cells c _ _) => decide (o + n ≤ c.size) | _ => false
def goodMid (w : World) (n : Nat) : Value → Bool | .pointer (some ⟨b, o, none⟩) => hasMid w b o n | _ => false
def midAt (w : World) (n : Nat) : Value → Array Value | .pointer (some ⟨b, o, none⟩) => midOf w b o n | _ => #[]
theorem goodMid_at (w : World) (n b o : Nat) : goodMid w n (.pointer (some ⟨b, o, none⟩)) = hasMid w b o n := rfl
theorem midAt_at (w : World) (n b o : Nat) : midAt w n (.pointer (some ⟨b, o, none⟩)) = midOf w b o n := rfl
theorem Part.take {xs cs : List Value} {o : Nat} (h : Part xs o cs) : (xs.drop o).take cs.length = cs := by
  apply List.ext_getElem?
  intro i
  rw [List.getElem?_take]
  by_cases hi : i < cs.length
  · rw [if_pos hi, List.getElem?_drop]; exact h.2 i hi
  · rw [if_neg hi, List.getElem?_eq_none (by omega)]
theorem Blk.mid {w : World} {b o : Nat} {xs cs : List Value} {T : TypeId} (h : Blk w b xs T) (hp : Part xs o cs) : midOf w b o cs.length = cs.toArray := by
  unfold Blk at h; simp [midOf, h, hp.take]
theorem Blk.hasMid {w : World} {b o : Nat} {xs cs : List Value} {T : TypeId} (h : Blk w b xs T) (hp : Part xs o cs) : hasMid w b o cs.length = true := by
  have := hp.1
  unfold Blk at h; simp [Go.Proofs.YtgdofgckjkmhjaaGreat.hasMid, h, this]
theorem exec_mid {P : Program} {w : World} (ty : TypeId) (n : Nat) (d : TypeDesc) (hu : P.underlying ty = some d) (hd : d.isRow = true) (hi : (P.info? ty).map (·.size) = some n)
    (ev : Operand → Value) (o : Oper) (x : Operand) (ho : o.op = .load ty x) (h : goodMid w n (ev x) = true) :
    (execOp ev o).run P w = .ok (.value (.agg (midAt w n (ev x)))) w := by
  unfold execOp
  rw [ho]
  unfold goodMid at h
  split at h
  · rename_i b k hv
    unfold hasMid at h
    split at h
    · rename_i c t fr hc
      have hsz : k + n ≤ c.size := by simpa using h
      have hr : (Instr.loadAt ty (.pointer (some ⟨b, k, none⟩))).run P w = .ok (.agg ((c.toList.drop k).take n).toArray) w := by
        simp only [Instr.loadAt, Instr.sureAddr, Sem.run_bind, Sem.run_pure, Result.andThen_ok, run_loadVar_mid w b k ty ((c.toList.drop k).take n) d (fun j v hv => by
          have hj := (List.getElem?_eq_some_iff.1 hv).1
          simp only [List.length_take] at hj
          rw [List.getElem?_take, if_pos (by omega), List.getElem?_drop] at hv
          simp only [World.cell?, hc]; simpa using hv) hu hd (by rw [hi]; simp; omega)]
      simp only [hv, Sem.run_bind, hr, Result.andThen_ok, Sem.run_pure, midAt, midOf, hc]
    · cases h
  · cases h
end Go.Proofs.YtgdofgckjkmhjaaGreat
namespace Go.Proofs.YtgdofgckjkmhjaaGreat
open Go Go.RowKit
set_option maxHeartbeats 800000 in
theorem lsame13 (s : St) (w : World) :
    Calls Tryz.prog 51 #[.agg (stc s).toArray, .agg (stc s).toArray] w fun e w' => e = .returned (.bool true) ∧ Kept [] w w' := by
  have b0 := (Blk.new w (stc s) 66).alloc (.cells (stc s).toArray 28)
  have e0 : Blk ((w.alloc (.cells (stc s).toArray 66)).alloc (.cells (stc s).toArray 28)) (w.heap.size + 1) (stc s) 28 := by
    have h := Blk.new (w.alloc (.cells (stc s).toArray 66)) (stc s) 28
    rw [show (w.alloc (.cells (stc s).toArray 66)).heap.size = w.heap.size + 1 by simp] at h
    exact h
  have k0 : Kept [] w ((w.alloc (.cells (stc s).toArray 66)).alloc (.cells (stc s).toArray 28)) := ((Kept.refl _ _).alloc _).alloc _
  have B0 := hx b0
  have E0 := hx e0
  have K0 := hx k0
  clear b0 e0 k0
  go_enter Tryz.func51, Tryz.ntmps51
  go_upto_region 1 with fail
  generalize (w.alloc (.cells (stc s).toArray 66)).alloc (.cells (stc s).toArray 28) = W0 at *
  have c0 := B0.out.cell (i := 0) rfl
  have c1 := B0.out.cell (i := 1) rfl
  have c2 := B0.out.cell (i := 2) rfl
  have c3 := B0.out.cell (i := 3) rfl
  have c4 := B0.out.cell (i := 4) rfl
  have d0 := E0.out.cell (i := 0) rfl
  have d1 := E0.out.cell (i := 1) rfl
  have d2 := E0.out.cell (i := 2) rfl
  have d3 := E0.out.cell (i := 3) rfl
  have d4 := E0.out.cell (i := 4) rfl
  go_wp2
  go_ret
  exact ⟨rfl, K0.out⟩
theorem infoRs69 : (Tryz.prog.info? 32).map (·.size) = some 69 := infoRs
theorem exec_Rs (w : World) (ev : Operand → Value) (dst : Option Tmp) (x : Operand) (t2 : TypeId) (pos : String) (af : Array Edge) (g : Option (Nat × Bool)) (h : goodPtr w 69 (ev x) = true) :
    (execOp ev { dst := dst, op := .load 32 x, type := t2, pos := pos, after := af, guard := g }).run Tryz.prog w = .ok (.value (.agg (rowAt w (ev x)))) w :=
  exec_row 32 69 _ Tryz.underlying32 rfl infoRs69 ev _ x rfl h
attribute [local go_sem ↓] exec_Rs
attribute [local go_sem] goodPtr_at rowAt_at
def S8 (n : Nat) (s : Sn) (w' : World) : Prop :=
  rowOf w' (n + 1) = (rsc s).toArray ∧ hasRow w' (n + 1) 69 = true
def C8 (n : Nat) (s : Sn) (w' : World) : Prop :=
  w'.cell? ⟨n, 0, none⟩ = some (.bool s.any) ∧ w'.cell? ⟨n, 1, none⟩ = some (.int .u32 s.top) ∧ w'.cell? ⟨n, 2, none⟩ = some (.int .u64 s.bits) ∧ w'.cell? ⟨n, 3, none⟩ = some (.int .i64 s.came) ∧ w'.cell? ⟨n, 4, none⟩ = some (.int .i64 s.twice) ∧ w'.cell? ⟨n, 5, none⟩ = some (.int .i64 s.lost) ∧
  w'.cell? ⟨n + 1, 0, none⟩ = some (.bool s.any) ∧ w'.cell? ⟨n + 1, 1, none⟩ = some (.int .u32 s.top) ∧ w'.cell? ⟨n + 1, 66, none⟩ = some (.int .i64 s.came) ∧ w'.cell? ⟨n + 1, 67, none⟩ = some (.int .i64 s.twice) ∧ w'.cell? ⟨n + 1, 68, none⟩ = some (.int .i64 s.lost)
theorem C8_of (n : Nat) (s : Sn) (w' : World) (hb : Blk w' n (snc s) 69) (he : Blk w' (n + 1) (rsc s) 32) : S8 n s w' ∧ C8 n s w' := by
  refine ⟨⟨he.row, by have := he.has; rwa [rsc_len] at this⟩, hb.cell rfl, hb.cell rfl, hb.cell rfl, hb.cell rfl, hb.cell rfl, hb.cell rfl, he.cell (by simp [rsc]), he.cell (by simp [rsc]), he.cell (rsc_tail s 0 (by omega)), he.cell (rsc_tail s 1 (by omega)), he.cell (rsc_tail s 2 (by omega))⟩
set_option maxRecDepth 100000 in
set_option maxHeartbeats 3200000 in
theorem lsame08 (s : Sn) (w : World) (hbits : s.bits < 18446744073709551616) :
    Calls Tryz.prog 52 #[.agg (snc s).toArray, .agg (rsc s).toArray] w fun e w' => e = .returned (.bool true) ∧ Kept [] w w' := by
  have b0 := (Blk.new w (snc s) 69).alloc (.cells (rsc s).toArray 32)
  have e0 : Blk ((w.alloc (.cells (snc s).toArray 69)).alloc (.cells (rsc s).toArray 32)) (w.heap.size + 1) (rsc s) 32 := by
    have h := Blk.new (w.alloc (.cells (snc s).toArray 69)) (rsc s) 32
    rw [show (w.alloc (.cells (snc s).toArray 69)).heap.size = w.heap.size + 1 by simp] at h
    exact h
  have k0 : Kept [] w ((w.alloc (.cells (snc s).toArray 69)).alloc (.cells (rsc s).toArray 32)) := ((Kept.refl _ _).alloc _).alloc _
  have B0 := hx b0
  have E0 := hx e0
  have K0 := hx k0
  have HT := hx (fun w => rbits_any s w hbits)
  have HG := hx (fun (w3 w4 : World) (h : ((rowOf w3 (w.heap.size + 1) = (rsc s).toArray ∧ hasRow w3 (w.heap.size + 1) 69 = true) ∧ C8 w.heap.size s w3) ∧ (Hx (Blk w3 w.heap.size (snc s) 69) ∧ Hx (Blk w3 (w.heap.size + 1) (rsc s) 32) ∧ Hx (Kept [] w w3))) (hk : Kept [] w3 w4) =>
    show ((rowOf w4 (w.heap.size + 1) = (rsc s).toArray ∧ hasRow w4 (w.heap.size + 1) 69 = true) ∧ C8 w.heap.size s w4) ∧ (Hx (Blk w4 w.heap.size (snc s) 69) ∧ Hx (Blk w4 (w.heap.size + 1) (rsc s) 32) ∧ Hx (Kept [] w w4)) from
    ⟨C8_of _ _ _ (hk.blk h.2.1.out (by simp)) (hk.blk h.2.2.1.out (by simp)), ⟨hk.blk h.2.1.out (by simp)⟩, ⟨hk.blk h.2.2.1.out (by simp)⟩, ⟨h.2.2.2.out.trans0 hk⟩⟩)
  have HI := hx (C8_of w.heap.size s)
  unfold C8 S8 at HI
  unfold C8 at HG
  clear b0 e0 k0 hbits
  go_enter Tryz.func52, Tryz.ntmps52
  go_upto_region 1 with fail
  generalize (w.alloc (.cells (snc s).toArray 69)).alloc (.cells (rsc s).toArray 32) = W0 at *
  go_region_held3 (fun w' => ((rowOf w' (w.heap.size + 1) = (rsc s).toArray ∧ hasRow w' (w.heap.size + 1) 69 = true) ∧ (w'.cell? ⟨w.heap.size, 0, none⟩ = some (.bool s.any) ∧ w'.cell? ⟨w.heap.size, 1, none⟩ = some (.int .u32 s.top) ∧ w'.cell? ⟨w.heap.size, 2, none⟩ = some (.int .u64 s.bits) ∧ w'.cell? ⟨w.heap.size, 3, none⟩ = some (.int .i64 s.came) ∧ w'.cell? ⟨w.heap.size, 4, none⟩ = some (.int .i64 s.twice) ∧ w'.cell? ⟨w.heap.size, 5, none⟩ = some (.int .i64 s.lost) ∧
  w'.cell? ⟨w.heap.size + 1, 0, none⟩ = some (.bool s.any) ∧ w'.cell? ⟨w.heap.size + 1, 1, none⟩ = some (.int .u32 s.top) ∧ w'.cell? ⟨w.heap.size + 1, 66, none⟩ = some (.int .i64 s.came) ∧ w'.cell? ⟨w.heap.size + 1, 67, none⟩ = some (.int .i64 s.twice) ∧ w'.cell? ⟨w.heap.size + 1, 68, none⟩ = some (.int .i64 s.lost))) ∧ (Hx (Blk w' w.heap.size (snc s) 69) ∧ Hx (Blk w' (w.heap.size + 1) (rsc s) 32) ∧ Hx (Kept [] w w')))
    (first | exact hSS | exact ⟨HI.out _ B0.out.drew E0.out.drew, ⟨B0.out.drew⟩, ⟨E0.out.drew⟩, ⟨K0.out.drew⟩⟩ | assumption)
    (first | (go_at_call 77; refine (HT.out _).mono ?_; rintro e w' ⟨rfl, hk⟩; have hSS := HG.out _ _ ‹_› hk))
  all_goals
    go_wp2
    go_ret
    exact ⟨rfl, hSS.2.2.2.out⟩
end Go.Proofs.YtgdofgckjkmhjaaGreat
namespace Go.Proofs.YtgdofgckjkmhjaaGreat
open Go Go.RowKit
theorem infoSsp (s : St) : (Tryz.prog.info? 66).map (·.size) = some 5 := by kernel_rfl
theorem infoSqp (s : Sn) : (Tryz.prog.info? 69).map (·.size) = some 6 := by kernel_rfl
theorem exec_m5 (w : World) (ev : Operand → Value) (dst : Option Tmp) (x : Operand) (t2 : TypeId) (pos : String) (af : Array Edge) (g : Option (Nat × Bool)) (h : goodMid w 5 (ev x) = true) :
    (execOp ev { dst := dst, op := .load 66 x, type := t2, pos := pos, after := af, guard := g }).run Tryz.prog w = .ok (.value (.agg (midAt w 5 (ev x)))) w :=
  exec_mid 66 5 _ Tryz.underlying66 rfl (infoSsp st0) ev _ x rfl h
theorem exec_m6 (w : World) (ev : Operand → Value) (dst : Option Tmp) (x : Operand) (t2 : TypeId) (pos : String) (af : Array Edge) (g : Option (Nat × Bool)) (h : goodMid w 6 (ev x) = true) :
    (execOp ev { dst := dst, op := .load 69 x, type := t2, pos := pos, after := af, guard := g }).run Tryz.prog w = .ok (.value (.agg (midAt w 6 (ev x)))) w :=
  exec_mid 69 6 _ Tryz.underlying69 rfl (infoSqp sn0) ev _ x rfl h
theorem exec_r5 (w : World) (ev : Operand → Value) (dst : Option Tmp) (x : Operand) (t2 : TypeId) (pos : String) (af : Array Edge) (g : Option (Nat × Bool)) (h : goodMid w 5 (ev x) = true) :
    (execOp ev { dst := dst, op := .load 28 x, type := t2, pos := pos, after := af, guard := g }).run Tryz.prog w = .ok (.value (.agg (midAt w 5 (ev x)))) w :=
  exec_mid 28 5 _ Tryz.underlying28 rfl infoSt ev _ x rfl h
theorem exec_r69 (w : World) (ev : Operand → Value) (dst : Option Tmp) (x : Operand) (t2 : TypeId) (pos : String) (af : Array Edge) (g : Option (Nat × Bool)) (h : goodMid w 69 (ev x) = true) :
    (execOp ev { dst := dst, op := .load 32 x, type := t2, pos := pos, after := af, guard := g }).run Tryz.prog w = .ok (.value (.agg (midAt w 69 (ev x)))) w :=
  exec_mid 32 69 _ Tryz.underlying32 rfl infoRs69 ev _ x rfl h
theorem exec_r78 (w : World) (ev : Operand → Value) (dst : Option Tmp) (x : Operand) (t2 : TypeId) (pos : String) (af : Array Edge) (g : Option (Nat × Bool)) (h : goodMid w 78 (ev x) = true) :
    (execOp ev { dst := dst, op := .load 34 x, type := t2, pos := pos, after := af, guard := g }).run Tryz.prog w = .ok (.value (.agg (midAt w 78 (ev x)))) w :=
  exec_mid 34 78 _ Tryz.underlying34 rfl infoRp ev _ x rfl h
attribute [local go_sem ↓] exec_m5 exec_m6 exec_r5 exec_r69 exec_r78
attribute [local go_sem] goodMid_at midAt_at
theorem Part.all (xs : List Value) : Part xs 0 xs := ⟨by simp, fun k _ => by simp⟩
theorem C14_of (n : Nat) (p : Pa) (w' : World) (hb : Blk w' n (pac p) 71) (he : Blk w' (n + 1) (rpc p) 34) :
  (midOf w' n 0 5 = (stc p.s).toArray ∧ hasMid w' n 0 5 = true ∧ midOf w' n 5 6 = (snc p.seen).toArray ∧ hasMid w' n 5 6 = true ∧
   midOf w' (n + 1) 0 5 = (stc p.s).toArray ∧ hasMid w' (n + 1) 0 5 = true ∧ midOf w' (n + 1) 5 69 = (rsc p.seen).toArray ∧ hasMid w' (n + 1) 5 69 = true ∧
   midOf w' (n + 1) 0 78 = (rpc p).toArray ∧ hasMid w' (n + 1) 0 78 = true) ∧
  (w'.cell? ⟨n, 11, none⟩ = some (.int .i64 p.quiet) ∧ w'.cell? ⟨n, 12, none⟩ = some (.int .i64 p.probe) ∧ w'.cell? ⟨n, 13, none⟩ = some (.int .i64 p.gap) ∧ w'.cell? ⟨n, 14, none⟩ = some (.int .u32 p.next) ∧
   w'.cell? ⟨n + 1, 74, none⟩ = some (.int .i64 p.quiet) ∧ w'.cell? ⟨n + 1, 75, none⟩ = some (.int .i64 p.probe) ∧ w'.cell? ⟨n + 1, 76, none⟩ = some (.int .i64 p.gap) ∧ w'.cell? ⟨n + 1, 77, none⟩ = some (.int .u32 p.next)) := by
  have a := he.mid (rpc_seen p)
  have b := he.hasMid (rpc_seen p)
  have c := he.mid (Part.all _)
  have d := he.hasMid (Part.all _)
  rw [rsc_len] at a b
  rw [rpc_len] at c d
  have pa := pac_s (Part.all (pac p))
  have pb := pac_seen (Part.all (pac p))
  exact ⟨⟨hb.mid pa, hb.hasMid pa, hb.mid pb, hb.hasMid pb, he.mid (rpc_s p), he.hasMid (rpc_s p), a, b, c, d⟩,
    hb.cell rfl, hb.cell rfl, hb.cell rfl, hb.cell rfl, he.cell (rpc_tail p 0 (by omega)), he.cell (rpc_tail p 1 (by omega)), he.cell (rpc_tail p 2 (by omega)), he.cell (rpc_tail p 3 (by omega))⟩
set_option maxRecDepth 100000 in
set_option maxHeartbeats 6400000 in
theorem lsame14 (p : Pa) (w : World) (hbits : p.seen.bits < 18446744073709551616) :
    Calls Tryz.prog 26 #[.agg (pac p).toArray, .agg (rpc p).toArray] w fun e w' => e = .returned (.bool true) ∧ Kept [] w w' := by
  have b0 := (Blk.new w (pac p) 71).alloc (.cells (rpc p).toArray 34)
  have e0 : Blk ((w.alloc (.cells (pac p).toArray 71)).alloc (.cells (rpc p).toArray 34)) (w.heap.size + 1) (rpc p) 34 := by
    have h := Blk.new (w.alloc (.cells (pac p).toArray 71)) (rpc p) 34
    rw [show (w.alloc (.cells (pac p).toArray 71)).heap.size = w.heap.size + 1 by simp] at h
    exact h
  have k0 : Kept [] w ((w.alloc (.cells (pac p).toArray 71)).alloc (.cells (rpc p).toArray 34)) := ((Kept.refl _ _).alloc _).alloc _
  have B0 := hx b0
  have E0 := hx e0
  have K0 := hx k0
  have HT := hx (fun w => lsame08 p.seen w hbits)
  have HI := hx (C14_of w.heap.size p)
  have HG := hx (fun (w3 w4 : World) (h : ((midOf w3 w.heap.size 0 5 = (stc p.s).toArray ∧ hasMid w3 w.heap.size 0 5 = true ∧ midOf w3 w.heap.size 5 6 = (snc p.seen).toArray ∧ hasMid w3 w.heap.size 5 6 = true ∧
   midOf w3 (w.heap.size + 1) 0 5 = (stc p.s).toArray ∧ hasMid w3 (w.heap.size + 1) 0 5 = true ∧ midOf w3 (w.heap.size + 1) 5 69 = (rsc p.seen).toArray ∧ hasMid w3 (w.heap.size + 1) 5 69 = true ∧
   midOf w3 (w.heap.size + 1) 0 78 = (rpc p).toArray ∧ hasMid w3 (w.heap.size + 1) 0 78 = true) ∧
  (w3.cell? ⟨w.heap.size, 11, none⟩ = some (.int .i64 p.quiet) ∧ w3.cell? ⟨w.heap.size, 12, none⟩ = some (.int .i64 p.probe) ∧ w3.cell? ⟨w.heap.size, 13, none⟩ = some (.int .i64 p.gap) ∧ w3.cell? ⟨w.heap.size, 14, none⟩ = some (.int .u32 p.next) ∧
   w3.cell? ⟨w.heap.size + 1, 74, none⟩ = some (.int .i64 p.quiet) ∧ w3.cell? ⟨w.heap.size + 1, 75, none⟩ = some (.int .i64 p.probe) ∧ w3.cell? ⟨w.heap.size + 1, 76, none⟩ = some (.int .i64 p.gap) ∧ w3.cell? ⟨w.heap.size + 1, 77, none⟩ = some (.int .u32 p.next))) ∧ (Hx (Blk w3 w.heap.size (pac p) 71) ∧ Hx (Blk w3 (w.heap.size + 1) (rpc p) 34) ∧ Hx (Kept [] w w3))) (hk : Kept [] w3 w4) =>
    And.intro (HI.out w4 (hk.blk h.2.1.out (by simp)) (hk.blk h.2.2.1.out (by simp))) (And.intro (hx (hk.blk h.2.1.out (by simp))) (And.intro (hx (hk.blk h.2.2.1.out (by simp))) (hx (h.2.2.2.out.trans0 hk)))))
  clear b0 e0 k0 hbits
  go_enter Tryz.func26, Tryz.ntmps26
  go_upto_region 1 with fail
  generalize (w.alloc (.cells (pac p).toArray 71)).alloc (.cells (rpc p).toArray 34) = W0 at *
  go_region_held3 (fun w3 => ((midOf w3 w.heap.size 0 5 = (stc p.s).toArray ∧ hasMid w3 w.heap.size 0 5 = true ∧ midOf w3 w.heap.size 5 6 = (snc p.seen).toArray ∧ hasMid w3 w.heap.size 5 6 = true ∧
   midOf w3 (w.heap.size + 1) 0 5 = (stc p.s).toArray ∧ hasMid w3 (w.heap.size + 1) 0 5 = true ∧ midOf w3 (w.heap.size + 1) 5 69 = (rsc p.seen).toArray ∧ hasMid w3 (w.heap.size + 1) 5 69 = true ∧
   midOf w3 (w.heap.size + 1) 0 78 = (rpc p).toArray ∧ hasMid w3 (w.heap.size + 1) 0 78 = true) ∧
  (w3.cell? ⟨w.heap.size, 11, none⟩ = some (.int .i64 p.quiet) ∧ w3.cell? ⟨w.heap.size, 12, none⟩ = some (.int .i64 p.probe) ∧ w3.cell? ⟨w.heap.size, 13, none⟩ = some (.int .i64 p.gap) ∧ w3.cell? ⟨w.heap.size, 14, none⟩ = some (.int .u32 p.next) ∧
   w3.cell? ⟨w.heap.size + 1, 74, none⟩ = some (.int .i64 p.quiet) ∧ w3.cell? ⟨w.heap.size + 1, 75, none⟩ = some (.int .i64 p.probe) ∧ w3.cell? ⟨w.heap.size + 1, 76, none⟩ = some (.int .i64 p.gap) ∧ w3.cell? ⟨w.heap.size + 1, 77, none⟩ = some (.int .u32 p.next))) ∧ (Hx (Blk w3 w.heap.size (pac p) 71) ∧ Hx (Blk w3 (w.heap.size + 1) (rpc p) 34) ∧ Hx (Kept [] w w3)))
    (first | exact hSS | exact ⟨HI.out _ B0.out.drew E0.out.drew, ⟨B0.out.drew⟩, ⟨E0.out.drew⟩, ⟨K0.out.drew⟩⟩ | assumption)
    (first
     | (go_at_call 51; refine (lsame13 p.s _).mono ?_; rintro e w' ⟨rfl, hk⟩; have hSS := HG.out _ _ ‹_› hk)
     | (go_at_call 52; refine (HT.out _).mono ?_; rintro e w' ⟨rfl, hk⟩; have hSS := HG.out _ _ ‹_› hk)
     | (go_at_call 48; refine (state_any w.heap.size 0 (pac p) 71 p _ hSS.2.1.out (Part.all _)).mono ?_; rintro e w' ⟨rfl, rfl⟩)
     | (go_at_call 53; refine (rstate_any p _).mono ?_; rintro e w' ⟨rfl, hk⟩; have hSS := HG.out _ _ ‹_› hk))
  all_goals
    go_wp2
    go_ret
    exact ⟨rfl, hSS.2.2.2.out⟩
end Go.Proofs.YtgdofgckjkmhjaaGreat
namespace Go.Proofs.YtgdofgckjkmhjaaGreat
open Go Go.RowKit
attribute [local go_sem ↓] exec_m5 exec_m6 exec_r5 exec_r69 exec_r78
attribute [local go_sem] goodMid_at midAt_at
def scoreI (s : St) : Int := (65536 - s.loss) * 64 / (64 + s.rtt)
theorem score_bd (s : St) (k : Int) (h : StOk s k) : 0 ≤ scoreI s ∧ scoreI s ≤ 65536 := by
  obtain ⟨⟨h1, h2⟩, ⟨h3, h4⟩, _, _, _⟩ := h
  unfold scoreI
  refine ⟨Int.ediv_nonneg (by omega) (by omega), ?_⟩
  exact Int.ediv_le_of_le_mul (by omega) (by omega)
set_option maxHeartbeats 800000 in
theorem score_any (s : St) (w : World) (k : Int) (hs : StOk s k) :
    Calls Tryz.prog 108 #[.agg (stc s).toArray] w fun e w' => e = .returned (.int .i64 (scoreI s)) ∧ Kept [] w w' := by
  have b0 := Blk.new w (stc s) 66
  have c0 := b0.cell (i := 0) (v := .int .i64 s.loss) rfl
  have c1 := b0.cell (i := 1) (v := .int .i64 s.rtt) rfl
  have K := hx ((Kept.refl [] w).alloc (.cells (stc s).toArray 66))
  have bd := score_bd s k hs
  obtain ⟨⟨h1, h2⟩, ⟨h3, h4⟩, _, _, _⟩ := hs
  have hC := hx (show max 0 (min s.loss (max 0 65535)) = s.loss by omega)
  clear b0
  go_enter Tryz.func108, Tryz.ntmps108
  go_wp2_with fail
  refine (clamp_any s.loss 0 65535 _).mono ?_
  rintro e w1 ⟨rfl, rfl⟩
  rw [hC.out]
  have hne : 64 + s.rtt ≠ 0 := by omega
  have hmax : max s.rtt 0 = s.rtt := by omega
  go_wp2
  go_ret
  exact ⟨rfl, K.out⟩
set_option maxHeartbeats 800000 in
theorem rscore_any (s : St) (w : World) (k : Int) (hs : StOk s k) :
    Calls Tryz.prog 106 #[.agg (stc s).toArray] w fun e w' => e = .returned (.int .i64 (scoreI s)) ∧ Kept [] w w' := by
  have b0 := Blk.new w (stc s) 28
  have c0 := b0.cell (i := 0) (v := .int .i64 s.loss) rfl
  have c1 := b0.cell (i := 1) (v := .int .i64 s.rtt) rfl
  have K := hx ((Kept.refl [] w).alloc (.cells (stc s).toArray 28))
  have bd := score_bd s k hs
  obtain ⟨⟨h1, h2⟩, ⟨h3, h4⟩, _, _, _⟩ := hs
  clear b0
  have hne : 64 + s.rtt ≠ 0 := by omega
  go_enter Tryz.func106, Tryz.ntmps106
  go_wp2
  go_ret
  exact ⟨rfl, K.out⟩

def midS (w' : World) (n o : Nat) (s : St) : Prop := midOf w' n o 5 = (stc s).toArray ∧ hasMid w' n o 5 = true
theorem midS_of {w' : World} {n o : Nat} {s : St} {xs : List Value} {T : TypeId} (h : Blk w' n xs T) (hp : Part xs o (stc s)) : midS w' n o s := ⟨h.mid hp, h.hasMid hp⟩
set_option maxRecDepth 100000 in
set_option maxHeartbeats 1600000 in
theorem sbetter_any (s t : St) (w : World) (k : Int) (hs : StOk s k) (ht : StOk t k) :
    Calls Tryz.prog 101 #[.agg (stc s).toArray, .agg (stc t).toArray] w fun e w' => e = .returned (.bool (decide (scoreI t < scoreI s))) ∧ Kept [] w w' := by
  have B0 := hx ((Blk.new w (stc s) 66).alloc (.cells (stc t).toArray 66))
  have E0 := hx (show Blk ((w.alloc (.cells (stc s).toArray 66)).alloc (.cells (stc t).toArray 66)) (w.heap.size + 1) (stc t) 66 by
    have h := Blk.new (w.alloc (.cells (stc s).toArray 66)) (stc t) 66
    rw [show (w.alloc (.cells (stc s).toArray 66)).heap.size = w.heap.size + 1 by simp] at h
    exact h)
  have K0 := hx (((Kept.refl [] w).alloc (.cells (stc s).toArray 66)).alloc (.cells (stc t).toArray 66))
  have HT := hx hs
  have HU := hx ht
  have HG := hx (fun (w3 w4 : World) (h : ((midOf w3 w.heap.size 0 5 = (stc s).toArray ∧ hasMid w3 w.heap.size 0 5 = true) ∧ (midOf w3 (w.heap.size + 1) 0 5 = (stc t).toArray ∧ hasMid w3 (w.heap.size + 1) 0 5 = true)) ∧ (Hx (Blk w3 w.heap.size (stc s) 66) ∧ Hx (Blk w3 (w.heap.size + 1) (stc t) 66) ∧ Hx (Kept [] w w3))) (hk : Kept [] w3 w4) =>
    And.intro (And.intro (midS_of (hk.blk h.2.1.out (by simp)) (Part.all _)) (midS_of (hk.blk h.2.2.1.out (by simp)) (Part.all _))) (And.intro (hx (hk.blk h.2.1.out (by simp))) (And.intro (hx (hk.blk h.2.2.1.out (by simp))) (hx (h.2.2.2.out.trans0 hk)))))
  unfold midS at HG
  clear hs ht
  go_enter Tryz.func101, Tryz.ntmps101
  go_upto_region 1 with fail
  generalize (w.alloc (.cells (stc s).toArray 66)).alloc (.cells (stc t).toArray 66) = W0 at *
  go_region_held3 (fun w3 => ((midOf w3 w.heap.size 0 5 = (stc s).toArray ∧ hasMid w3 w.heap.size 0 5 = true) ∧ (midOf w3 (w.heap.size + 1) 0 5 = (stc t).toArray ∧ hasMid w3 (w.heap.size + 1) 0 5 = true)) ∧ (Hx (Blk w3 w.heap.size (stc s) 66) ∧ Hx (Blk w3 (w.heap.size + 1) (stc t) 66) ∧ Hx (Kept [] w w3)))
    (first | exact hSS | exact ⟨⟨midS_of B0.out.drew (Part.all _), midS_of E0.out.drew (Part.all _)⟩, ⟨B0.out.drew⟩, ⟨E0.out.drew⟩, ⟨K0.out.drew⟩⟩ | assumption)
    (first
     | (go_at_call 108; refine (score_any _ _ k (by first | exact HT.out | exact HU.out)).mono ?_; rintro e w' ⟨rfl, hk⟩; have hSS := HG.out _ _ ‹_› hk))
  all_goals
    go_wp2
    go_ret
    exact ⟨rfl, hSS.2.2.2.out⟩
end Go.Proofs.YtgdofgckjkmhjaaGreat
namespace Go.Proofs.YtgdofgckjkmhjaaGreat
open Go Go.RowKit
attribute [local go_sem ↓] exec_m5 exec_m6 exec_r5 exec_r69 exec_r78
attribute [local go_sem] goodMid_at midAt_at
def keyI (p : Pa) : Int := stateI p.quiet * 1000000 - scoreI p.s
theorem key_ne (p q : Pa) (k : Int) (hp : StOk p.s k) (hq : StOk q.s k) (h : stateI p.quiet ≠ stateI q.quiet) : decide (stateI p.quiet < stateI q.quiet) = decide (keyI p < keyI q) := by
  have h1 := score_bd p.s k hp
  have h2 := score_bd q.s k hq
  unfold keyI
  apply Bool.eq_iff_iff.2
  simp only [decide_eq_true_eq]
  omega
theorem key_eq (p q : Pa) (h : stateI p.quiet = stateI q.quiet) : decide (scoreI q.s < scoreI p.s) = decide (keyI p < keyI q) := by
  unfold keyI
  apply Bool.eq_iff_iff.2
  simp only [decide_eq_true_eq]
  omega
set_option maxRecDepth 100000 in
set_option maxHeartbeats 3200000 in
theorem ahead_any (b c : Nat) (p q : Pa) (w : World) (k : Int) (hp : StOk p.s k) (hq : StOk q.s k) (hb : Blk w b (pac p) 71) (hc : Blk w c (pac q) 71) :
    Calls Tryz.prog 90 #[.pointer (some ⟨b, 0, none⟩), .pointer (some ⟨c, 0, none⟩)] w fun e w' => e = .returned (.bool (decide (keyI p < keyI q))) ∧ Kept [] w w' := by
  have HS := hx (state_any b 0 (pac p) _ p w hb (Part.all _))
  have HT := hx (state_any c 0 (pac q) _ q w hc (Part.all _))
  have HB := hx hb
  have HC := hx hc
  have HP := hx hp
  have HQ := hx hq
  by_cases h : stateI p.quiet = stateI q.quiet
  · have z := hx (key_eq p q h)
    rw [h] at HS
    generalize stateI q.quiet = y at *
    clear hb hc hp hq h
    go_enter Tryz.func90, Tryz.ntmps90
    go_wp2_with fail
    refine HS.out.mono ?_
    rintro e w1 ⟨rfl, rfl⟩
    go_wp2_with fail
    refine HT.out.mono ?_
    rintro e w1 ⟨rfl, rfl⟩
    go_upto_region 3 with fail
    clear HS HT
    have HG := hx (fun (w3 w4 : World) (h : ((midOf w3 b 0 5 = (stc p.s).toArray ∧ hasMid w3 b 0 5 = true) ∧ (midOf w3 c 0 5 = (stc q.s).toArray ∧ hasMid w3 c 0 5 = true)) ∧ (Hx (Blk w3 b (pac p) 71) ∧ Hx (Blk w3 c (pac q) 71) ∧ Hx (Kept [] w w3))) (hk : Kept [] w3 w4) =>
      And.intro (And.intro (midS_of (hk.blk h.2.1.out (by simp)) (pac_s (Part.all _))) (midS_of (hk.blk h.2.2.1.out (by simp)) (pac_s (Part.all _)))) (And.intro (hx (hk.blk h.2.1.out (by simp))) (And.intro (hx (hk.blk h.2.2.1.out (by simp))) (hx (h.2.2.2.out.trans0 hk)))))
    unfold midS at HG
    go_region_held3 (fun w3 => ((midOf w3 b 0 5 = (stc p.s).toArray ∧ hasMid w3 b 0 5 = true) ∧ (midOf w3 c 0 5 = (stc q.s).toArray ∧ hasMid w3 c 0 5 = true)) ∧ (Hx (Blk w3 b (pac p) 71) ∧ Hx (Blk w3 c (pac q) 71) ∧ Hx (Kept [] w w3)))
      (first | exact hSS | exact ⟨⟨midS_of HB.out.drew (pac_s (Part.all _)), midS_of HC.out.drew (pac_s (Part.all _))⟩, ⟨HB.out.drew⟩, ⟨HC.out.drew⟩, ⟨(Kept.refl _ _).drew⟩⟩ | assumption)
      (first
       | (go_at_call 101; refine (sbetter_any p.s q.s _ k HP.out HQ.out).mono ?_; rintro e w' ⟨rfl, hk⟩; have hSS := HG.out _ _ ‹_› hk))
    all_goals
      go_wp2
      go_ret
      exact ⟨by rw [← z.out]; rfl, hSS.2.2.2.out⟩
  · have z := hx (key_ne p q k hp hq h)
    have hne : (stateI p.quiet != stateI q.quiet) = true := by simp [bne, h]
    generalize stateI q.quiet = y at *
    generalize stateI p.quiet = x at *
    clear hb hc hp hq h
    go_enter Tryz.func90, Tryz.ntmps90
    go_wp2_with fail
    refine HS.out.mono ?_
    rintro e w1 ⟨rfl, rfl⟩
    go_wp2_with fail
    refine HT.out.mono ?_
    rintro e w1 ⟨rfl, rfl⟩
    go_wp2_with fail
    refine HS.out.mono ?_
    rintro e w1 ⟨rfl, rfl⟩
    go_wp2_with fail
    refine HT.out.mono ?_
    rintro e w1 ⟨rfl, rfl⟩
    go_wp2
    go_ret
    exact ⟨by rw [← z.out]; rfl, Kept.refl _ _⟩
end Go.Proofs.YtgdofgckjkmhjaaGreat
namespace Go.Proofs.YtgdofgckjkmhjaaGreat
/-- One comes ahead of another: by its key, then by its number. -/
def lex (K : Nat → Int) (a b : Nat) : Prop := K a < K b ∨ (K a = K b ∧ a < b)
theorem lex_trans {K : Nat → Int} {a b c : Nat} (h : lex K a b) (g : lex K b c) : lex K a c := by unfold lex at *; omega
theorem lex_ne {K : Nat → Int} {a b : Nat} (h : lex K a b) : ¬ lex K b a := by unfold lex at *; omega
theorem lex_irr {K : Nat → Int} {a : Nat} : ¬ lex K a a := by unfold lex; omega
/-- In order, and just the numbers below n. -/
structure Srt (K : Nat → Int) (n : Nat) (l : List Nat) : Prop where
  ord : l.Pairwise (lex K)
  mem : ∀ x, x ∈ l ↔ x < n
theorem pw_eq {K : Nat → Int} : ∀ (l m : List Nat), l.Pairwise (lex K) → m.Pairwise (lex K) → (∀ x, x ∈ l ↔ x ∈ m) → l = m
  | [], [], _, _, _ => rfl
  | [], b :: m, _, _, h => by have := (h b).2 (by simp); simp at this
  | a :: l, [], _, _, h => by have := (h a).1 (by simp); simp at this
  | a :: l, b :: m, hl, hm, h => by
    rw [List.pairwise_cons] at hl hm
    have hab : a = b := by
      have h1 := (h a).1 (by simp)
      have h2 := (h b).2 (by simp)
      simp only [List.mem_cons] at h1 h2
      rcases h1 with h1 | h1
      · exact h1
      · rcases h2 with h2 | h2
        · exact h2.symm
        · exact absurd (hm.1 a h1) (lex_ne (hl.1 b h2))
    subst hab
    rw [pw_eq l m hl.2 hm.2 fun x => ?_]
    have := h x
    simp only [List.mem_cons] at this
    constructor
    · intro hx
      rcases this.1 (.inr hx) with rfl | h2
      · exact absurd (hl.1 x hx) lex_irr
      · exact h2
    · intro hx
      rcases this.2 (.inr hx) with rfl | h2
      · exact absurd (hm.1 x hx) lex_irr
      · exact h2
theorem Srt.eq {K : Nat → Int} {n : Nat} {l m : List Nat} (h : Srt K n l) (g : Srt K n m) : l = m :=
  pw_eq l m h.ord g.ord fun x => by rw [h.mem, g.mem]
theorem Srt.nil (K : Nat → Int) : Srt K 0 [] := ⟨List.Pairwise.nil, by simp⟩
/-- The place for the next number: all from k on come behind it. -/
structure Plc (K : Nat → Int) (n : Nat) (l : List Nat) (k : Nat) : Prop where
  le : k ≤ l.length
  aft : ∀ x ∈ l.drop k, K n < K x
theorem Plc.top (K : Nat → Int) (n : Nat) (l : List Nat) : Plc K n l l.length := ⟨Nat.le_refl _, by simp⟩
theorem Plc.down {K : Nat → Int} {n : Nat} {l : List Nat} {k : Nat} (h : Plc K n l (k + 1)) (hk : K n < K (l.getD k 0)) : Plc K n l k := by
  have hle := h.le
  refine ⟨by omega, fun x hx => ?_⟩
  rw [List.drop_eq_getElem_cons (by omega)] at hx
  simp only [List.mem_cons] at hx
  rcases hx with rfl | hx
  · simpa [List.getD, show k < l.length by omega] using hk
  · exact h.aft x hx
theorem Srt.put {K : Nat → Int} {n : Nat} {l : List Nat} {k : Nat} (h : Srt K n l) (p : Plc K n l k) (hk : k = 0 ∨ K (l.getD (k - 1) 0) ≤ K n) : Srt K (n + 1) (l.take k ++ n :: l.drop k) := by
  have hsp : l = l.take k ++ l.drop k := (List.take_append_drop k l).symm
  have hord := h.ord
  rw [hsp, List.pairwise_append] at hord
  have hle := p.le
  refine ⟨?_, fun x => ?_⟩
  · rw [List.pairwise_append, List.pairwise_cons]
    refine ⟨hord.1, ⟨fun x hx => .inl (p.aft x hx), hord.2.1⟩, fun a ha b hb => ?_⟩
    simp only [List.mem_cons] at hb
    rcases hb with rfl | hb
    · have han : a < b := (h.mem a).1 (List.mem_of_mem_take ha)
      have hK : K a ≤ K b := by
        rcases hk with rfl | hk
        · simp at ha
        · obtain ⟨i, hi, rfl⟩ := List.getElem_of_mem ha
          simp only [List.length_take] at hi
          rw [List.getElem_take]
          have hk1 : l.getD (k - 1) 0 = l[k - 1]'(by omega) := by simp [List.getD, show k - 1 < l.length by omega]
          rw [hk1] at hk
          rcases Nat.lt_or_ge i (k - 1) with h1 | h1
          · have := List.pairwise_iff_getElem.1 h.ord i (k - 1) (by omega) (by omega) h1
            unfold lex at this; omega
          · obtain rfl : i = k - 1 := by omega
            exact hk
      unfold lex; omega
    · exact hord.2.2 a ha b hb
  · have := h.mem x
    rw [hsp] at this
    simp only [List.mem_append, List.mem_cons] at this ⊢
    constructor
    · rintro (h1 | rfl | h1)
      · have := this.1 (.inl h1); omega
      · omega
      · have := this.1 (.inr h1); omega
    · intro hx
      by_cases g : x = n
      · exact .inr (.inl g)
      · rcases this.2 (by omega) with h1 | h1
        · exact .inl h1
        · exact .inr (.inr h1)
/-- What was chosen so far: in order, and ahead of all that wasn't. -/
structure Sel (K : Nat → Int) (n : Nat) (l : List Nat) : Prop where
  ord : l.Pairwise (lex K)
  lt : ∀ x ∈ l, x < n
  bef : ∀ x ∈ l, ∀ y, y < n → y ∉ l → lex K x y
theorem Sel.nil (K : Nat → Int) (n : Nat) : Sel K n [] := ⟨List.Pairwise.nil, by simp, by simp⟩
/-- The best one of those below i that weren't chosen yet. -/
def Bst (K : Nat → Int) (l : List Nat) (i : Nat) (b : Int) : Prop :=
  (b = -1 ∧ ∀ y, y < i → y ∈ l) ∨ (∃ c : Nat, b = c ∧ c < i ∧ c ∉ l ∧ ∀ y, y < i → y ∉ l → y ≠ c → lex K c y)
theorem Bst.zero (K : Nat → Int) (l : List Nat) : Bst K l 0 (-1) := .inl ⟨rfl, by omega⟩
theorem Bst.used {K : Nat → Int} {l : List Nat} {i : Nat} {b : Int} (h : Bst K l i b) (hi : i ∈ l) : Bst K l (i + 1) b := by
  rcases h with ⟨rfl, h⟩ | ⟨c, rfl, h1, h2, h3⟩
  · refine .inl ⟨rfl, fun y hy => ?_⟩
    rcases Nat.lt_or_ge y i with g | g
    · exact h y g
    · obtain rfl : y = i := by omega
      exact hi
  · refine .inr ⟨c, rfl, by omega, h2, fun y hy hn hc => ?_⟩
    rcases Nat.lt_or_ge y i with g | g
    · exact h3 y g hn hc
    · obtain rfl : y = i := by omega
      exact absurd hi hn
theorem Bst.first {K : Nat → Int} {l : List Nat} {i : Nat} (h : Bst K l i (-1)) (hi : i ∉ l) : Bst K l (i + 1) i := by
  rcases h with ⟨_, h⟩ | ⟨c, h0, _⟩
  · refine .inr ⟨i, rfl, by omega, hi, fun y hy hn hc => ?_⟩
    exact absurd (h y (by omega)) hn
  · omega
theorem Bst.better {K : Nat → Int} {l : List Nat} {i c : Nat} (h : Bst K l i (c : Int)) (hi : i ∉ l) (hk : K i < K c) : Bst K l (i + 1) i := by
  rcases h with ⟨h0, h⟩ | ⟨d, h0, h1, h2, h3⟩
  · omega
  · obtain rfl : c = d := by omega
    refine .inr ⟨i, rfl, by omega, hi, fun y hy hn hc => ?_⟩
    by_cases g : y = c
    · subst g; exact .inl hk
    · have := h3 y (by omega) hn g
      unfold lex at *; omega
theorem Bst.worse {K : Nat → Int} {l : List Nat} {i c : Nat} (h : Bst K l i (c : Int)) (hk : ¬ K i < K c) : Bst K l (i + 1) c := by
  rcases h with ⟨h0, h⟩ | ⟨d, h0, h1, h2, h3⟩
  · omega
  · obtain rfl : c = d := by omega
    refine .inr ⟨c, rfl, by omega, h2, fun y hy hn hc => ?_⟩
    rcases Nat.lt_or_ge y i with g | g
    · exact h3 y g hn hc
    · obtain rfl : y = i := by omega
      unfold lex; omega
theorem Bst.lt {K : Nat → Int} {l : List Nat} {i c : Nat} (h : Bst K l i (c : Int)) : c < i ∧ c ∉ l := by
  rcases h with ⟨h0, h⟩ | ⟨d, h0, h1, h2, h3⟩
  · omega
  · obtain rfl : c = d := by omega
    exact ⟨h1, h2⟩
/-- As long as fewer than n were chosen there is one more. -/
theorem nodup_le : ∀ (n : Nat) (l : List Nat), l.Nodup → (∀ x ∈ l, x < n) → l.length ≤ n
  | 0, l, _, h => by
    cases l with
    | nil => simp
    | cons a l => have := h a (by simp); omega
  | n + 1, l, hd, h => by
    have h1 := nodup_le n (l.erase n) (hd.erase n) (fun x hx => by
      have h2 := h x (List.mem_of_mem_erase hx)
      have h3 : x ≠ n := fun e => by subst e; exact (List.Nodup.not_mem_erase hd) hx
      omega)
    have h2 := List.length_erase (a := n) (l := l)
    split at h2 <;> omega
theorem Sel.nodup {K : Nat → Int} {n : Nat} {l : List Nat} (h : Sel K n l) : l.Nodup := h.ord.imp fun hab e => by subst e; exact lex_irr hab
theorem Sel.full {K : Nat → Int} {n : Nat} {l : List Nat} (h : Sel K n l) (hl : n ≤ l.length) : Srt K n l := by
  refine ⟨h.ord, fun x => ⟨h.lt x, fun hx => ?_⟩⟩
  by_cases g : x ∈ l
  · exact g
  · have := nodup_le n (x :: l) (List.nodup_cons.2 ⟨g, h.nodup⟩) (fun y hy => by
      simp only [List.mem_cons] at hy
      rcases hy with rfl | hy
      · exact hx
      · exact h.lt y hy)
    simp at this
    omega
theorem Sel.there {n : Nat} {l : List Nat} (hl : l.length < n) (h : ∀ y, y < n → y ∈ l) : False := by
  have h1 : ∀ (n : Nat) (l : List Nat), (∀ y, y < n → y ∈ l) → n ≤ l.length := by
    intro n
    induction n with
    | zero => intro l _; omega
    | succ n ih =>
      intro l h
      have h2 := ih (l.erase n) (fun y hy => (List.mem_erase_of_ne (by omega)).2 (h y (by omega)))
      have h3 := List.length_erase_of_mem (h n (by omega))
      have h4 := List.length_pos_of_mem (h n (by omega))
      omega
  have := h1 n l h
  omega
theorem Sel.add {K : Nat → Int} {n : Nat} {l : List Nat} {c : Nat} (h : Sel K n l) (hb : Bst K l n (c : Int)) : Sel K n (l ++ [c]) := by
  obtain ⟨h1, h2⟩ := hb.lt
  rcases hb with ⟨h0, _⟩ | ⟨d, h0, _, _, h3⟩
  · omega
  · obtain rfl : c = d := by omega
    refine ⟨?_, fun x hx => ?_, fun x hx y hy hn => ?_⟩
    · rw [List.pairwise_append]
      refine ⟨h.ord, by simp, fun a ha b hb => ?_⟩
      simp at hb; subst hb
      exact h.bef a ha _ h1 h2
    · simp at hx
      rcases hx with hx | rfl
      · exact h.lt x hx
      · exact h1
    · simp at hx hn
      rcases hx with hx | rfl
      · exact h.bef x hx y hy hn.1
      · exact h3 y hy hn.1 hn.2
end Go.Proofs.YtgdofgckjkmhjaaGreat
namespace Go.Proofs.YtgdofgckjkmhjaaGreat
open Go Go.RowKit
section
variable {P : Program} {w : World}
theorem run_app (base : Nat) (t ty e : TypeId) (i : TypeInfo) (z : Value) (size bytes : Nat) (ht : P.underlying t = some (.slice e)) (hi : P.info? e = some i) (hz : i.zero = some z)
    (hsize : i.size = size) (hby : i.bytes = bytes) (hzs : z.cells.size = size) (hsz : 0 < size)
    (v : Value) (n : Nat) (xs : List Value) (hown : w.ownsRow base e size v n xs)
    (ao : Option Addr) (m c : Nat) (news : List Value) (hl : news.length = m * size) (hnil : ao = none → c = 0) (hmc : m ≤ c) (hnews : ∀ ad, ao = some ad → ∀ j u, news[j]? = some u → w.cell? (ad.add j) = some u) (h1 : ∀ u ∈ news, u.oneCell' = true)
    (h63 : n + m ≤ maxLen) (hbytes : (n + m) * bytes ≤ 140737488355328) (hbase : base ≤ w.heap.size) :
    ∃ v' w', (Builtin.append_ #[t, t] ty #[v, .slice ao m c]).run P w = .ok v' w' ∧ w'.ownsRow base e size v' (n + m) (xs ++ news) ∧ w.grownBy w' v.ownBlock := by
  cases ao with
  | some ad =>
    obtain ⟨v', w', h1, h2, h3, _⟩ := run_append_own (P := P) w base t ty e i z size bytes ht hi hz hsize hby hzs hsz v n xs hown ad m c news hl (hnews ad rfl) h1 h63 hbytes hbase
    exact ⟨v', w', h1, h2, h3⟩
  | none =>
    obtain rfl := hnil rfl
    obtain rfl : m = 0 := by omega
    obtain rfl : news = [] := List.eq_nil_of_length_eq_zero (by simpa using hl)
    have hrun := run_append_owned_none (P := P) (w := w) base t ty e i size ht hi v n xs hown
    exact ⟨v, w, hrun, by simpa using hown, ⟨rfl, rfl, rfl, Nat.le_refl _, fun _ _ _ => rfl⟩⟩

theorem wpList_app {ops : Array Oper} {rest : List Oper} {o : Oper} {a : Act} {Q : Exit → Act → World → Prop} (hgd : o.guard = none) (s x : Operand) (t : TypeId)
    (ho : o.op = .call { callee := .builtin .append, args := #[s, x], argTypes := #[t, t] })
    (base : Nat) (e : TypeId) (z : Value) (size bytes : Nat) (hinfo : (P.info? e).map (fun i => (i.zero, i.size, i.bytes)) = some (some z, size, bytes)) (ht : P.underlying t = some (.slice e))
    (hzs : z.cells.size = size) (hsz : 0 < size)
    (v : Value) (n : Nat) (xs : List Value) (hs : a.eval s = v) (hown : w.ownsRow base e size v n xs)
    (ao : Option Addr) (m c : Nat) (news : List Value) (hx : a.eval x = .slice ao m c) (hl : news.length = m * size) (hnil : ao = none → c = 0) (hmc : m ≤ c) (hnews : ∀ ad, ao = some ad → ∀ j u, news[j]? = some u → w.cell? (ad.add j) = some u) (h1 : ∀ u ∈ news, u.oneCell' = true)
    (h63 : n + m ≤ maxLen) (hbytes : (n + m) * bytes ≤ 140737488355328) (hbase : base ≤ w.heap.size)
    (h : ∀ v' w', w'.ownsRow base e size v' (n + m) (xs ++ news) → w.grownBy w' v.ownBlock → wpList P ops Q rest (a.put o.dst v') w') : wpList P ops Q (o :: rest) a w := by
  obtain ⟨i, hi, hz0, hz1, hz2⟩ := info_parts hinfo
  refine wpList_plain hgd fun K hK => ?_
  obtain ⟨v', w', hrun, r1, r2⟩ := run_app (P := P) (w := w) base t o.type e i z size bytes ht hi hz0 hz1 hz2 hzs hsz v n xs hown ao m c news hl hnil hmc hnews h1 h63 hbytes hbase
  unfold Oper.wp execOp
  simp only [ho, resolve, invoke, builtin, Sem.run_bind, Sem.run_pure, Result.andThen_ok, List.map_toArray, List.map_cons, List.map_nil, hs, hx, hrun]
  exact hK _ _ (h v' w' r1 r2)

theorem step_app {ops : Array Oper} {o : Oper} {a : Act} {K : Act → World → Prop} {Q : Exit → Act → World → Prop} {E : Prop} (hgd : o.guard = none) (s x : Operand) (t : TypeId)
    (ho : o.op = .call { callee := .builtin .append, args := #[s, x], argTypes := #[t, t] })
    (base : Nat) (e : TypeId) (z : Value) (size bytes : Nat) (hinfo : (P.info? e).map (fun i => (i.zero, i.size, i.bytes)) = some (some z, size, bytes)) (ht : P.underlying t = some (.slice e))
    (hzs : z.cells.size = size) (hsz : 0 < size)
    (v : Value) (n : Nat) (xs : List Value) (hs : a.eval s = v) (hown : w.ownsRow base e size v n xs)
    (ao : Option Addr) (m c : Nat) (news : List Value) (hx : a.eval x = .slice ao m c) (hl : news.length = m * size) (hnil : ao = none → c = 0) (hmc : m ≤ c) (hnews : ∀ ad, ao = some ad → ∀ j u, news[j]? = some u → w.cell? (ad.add j) = some u) (h1 : ∀ u ∈ news, u.oneCell' = true)
    (h63 : n + m ≤ maxLen) (hbytes : (n + m) * bytes ≤ 140737488355328) (hbase : base ≤ w.heap.size)
    (h : ∀ v' w', w'.ownsRow base e size v' (n + m) (xs ++ news) → w.grownBy w' v.ownBlock → K (a.put o.dst v') w') : if Region.wanted o (yielded ops a.tmps) = true then Oper.wp P o a w K Q else E := by
  have hw : Region.wanted o (yielded ops a.tmps) = true := by simp [Region.wanted, hgd]
  rw [if_pos hw]
  obtain ⟨i, hi, hz0, hz1, hz2⟩ := info_parts hinfo
  obtain ⟨v', w', hrun, r1, r2⟩ := run_app (P := P) (w := w) base t o.type e i z size bytes ht hi hz0 hz1 hz2 hzs hsz v n xs hown ao m c news hl hnil hmc hnews h1 h63 hbytes hbase
  unfold Oper.wp execOp
  simp only [ho, resolve, invoke, builtin, Sem.run_bind, Sem.run_pure, Result.andThen_ok, List.map_toArray, List.map_cons, List.map_nil, hs, hx, hrun]
  exact h v' w' r1 r2
end
end Go.Proofs.YtgdofgckjkmhjaaGreat
