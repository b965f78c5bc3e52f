import Derived.Test.YtgdofgckjkmhjaaPathV
import Derived.Test.YtgdofgckjkmhjaaPathQ
namespace Go.Proofs.Ytgdofgckjkmhjaa
open Go Go.RowKit
theorem Part.sub {xs ys bs cs : List Value} {o : Nat} (h : Part xs o (ys ++ bs ++ cs)) : Part xs (o + ys.length) bs := by
  obtain ⟨h1, h2⟩ := h
  simp only [List.length_append] at h1 h2
  refine ⟨by omega, fun k hk => ?_⟩
  rw [Nat.add_assoc, h2 (ys.length + k) (by omega), List.getElem?_append_left (by simp; omega), List.getElem?_append_right (by omega)]
  congr 1
  omega
theorem setAll_sub {xs ys bs bs' cs : List Value} {o : Nat} (h : Part xs o (ys ++ bs ++ cs)) (hl : bs'.length = bs.length) : setAll xs (o + ys.length) bs' = setAll xs o (ys ++ bs' ++ cs) := by
  obtain ⟨h1, h2⟩ := h
  simp only [List.length_append] at h1 h2
  apply List.ext_getElem?
  intro i
  rw [setAll_get _ _ _ (by omega), setAll_get _ _ _ (by simp; omega)]
  by_cases hi : o ≤ i ∧ i < o + (ys.length + bs.length + cs.length)
  · rw [if_pos (show o ≤ i ∧ i < o + (ys ++ bs' ++ cs).length by simp; omega)]
    have e := h2 (i - o) (by omega)
    rw [show o + (i - o) = i by omega] at e
    by_cases ha : i - o < ys.length
    · rw [if_neg (by omega), e, List.append_assoc, List.append_assoc, List.getElem?_append_left ha, List.getElem?_append_left ha]
    · by_cases hb : i - o < ys.length + bs.length
      · rw [if_pos (by omega), List.getElem?_append_left (by simp; omega), List.getElem?_append_right (by omega)]
        congr 1
        omega
      · rw [if_neg (by omega), e, List.getElem?_append_right (by simp; omega), List.getElem?_append_right (by simp; omega)]
        simp [hl]
  · rw [if_neg (show ¬ (o ≤ i ∧ i < o + (ys ++ bs' ++ cs).length) by simp; omega), if_neg (by omega)]
def pac (p : Pa) : List Value := stc p.s ++ snc p.seen ++ [.int .i64 p.quiet, .int .i64 p.probe, .int .i64 p.gap, .int .u32 p.next]
theorem pac_s {xs : List Value} {o : Nat} {p : Pa} (h : Part xs o (pac p)) : Part xs o (stc p.s) :=
  Part.sub (ys := []) (bs := stc p.s) (cs := snc p.seen ++ [.int .i64 p.quiet, .int .i64 p.probe, .int .i64 p.gap, .int .u32 p.next]) (by simpa [pac] using h)
theorem pac_seen {xs : List Value} {o : Nat} {p : Pa} (h : Part xs o (pac p)) : Part xs (o + 5) (snc p.seen) := Part.sub (ys := stc p.s) h
theorem pac_set_s {xs : List Value} {o : Nat} {p : Pa} (h : Part xs o (pac p)) (s : St) : setAll xs o (stc s) = setAll xs o (pac { p with s := s }) := by
  have e := setAll_sub (ys := []) (bs := stc p.s) (bs' := stc s) (cs := snc p.seen ++ [.int .i64 p.quiet, .int .i64 p.probe, .int .i64 p.gap, .int .u32 p.next]) (o := o) (xs := xs) (by simpa [pac] using h) rfl
  simpa [pac] using e
theorem pac_set_seen {xs : List Value} {o : Nat} {p : Pa} (h : Part xs o (pac p)) (s : Sn) : setAll xs (o + 5) (snc s) = setAll xs o (pac { p with seen := s }) := setAll_sub (ys := stc p.s) (bs' := snc s) h rfl
theorem pac_len (p : Pa) : (pac p).length = 15 := rfl
theorem Blk.pset {w : World} {b o : Nat} {xs : List Value} {T : TypeId} {p p1 : Pa} (h : Blk w b (setAll xs o (pac p1)) T) (hp : Part xs o (pac p)) (k : Nat) (hk : k < 15) (v : Value) (p2 : Pa) (he : (pac p1).set k v = pac p2) : Blk (w.setCell ⟨b, o + k, none⟩ v) b (setAll xs o (pac p2)) T := by
  rw [← he]
  exact h.setp hp rfl k v hk
theorem Blk.pquiet {w : World} {b o : Nat} {xs : List Value} {T : TypeId} {p : Pa} {s : St} {sn : Sn} {q r g : Int} {n : Nat} (h : Blk w b (setAll xs o (pac ⟨s, sn, q, r, g, n⟩)) T) (hp : Part xs o (pac p)) (v : Int) : Blk (w.setCell ⟨b, o + 11, none⟩ (.int .i64 v)) b (setAll xs o (pac ⟨s, sn, v, r, g, n⟩)) T := h.pset hp 11 (by omega) _ _ rfl
theorem Blk.pprobe {w : World} {b o : Nat} {xs : List Value} {T : TypeId} {p : Pa} {s : St} {sn : Sn} {q r g : Int} {n : Nat} (h : Blk w b (setAll xs o (pac ⟨s, sn, q, r, g, n⟩)) T) (hp : Part xs o (pac p)) (v : Int) : Blk (w.setCell ⟨b, o + 12, none⟩ (.int .i64 v)) b (setAll xs o (pac ⟨s, sn, q, v, g, n⟩)) T := h.pset hp 12 (by omega) _ _ rfl
theorem Blk.pgap {w : World} {b o : Nat} {xs : List Value} {T : TypeId} {p : Pa} {s : St} {sn : Sn} {q r g : Int} {n : Nat} (h : Blk w b (setAll xs o (pac ⟨s, sn, q, r, g, n⟩)) T) (hp : Part xs o (pac p)) (v : Int) : Blk (w.setCell ⟨b, o + 13, none⟩ (.int .i64 v)) b (setAll xs o (pac ⟨s, sn, q, r, v, n⟩)) T := h.pset hp 13 (by omega) _ _ rfl
theorem Blk.pnext {w : World} {b o : Nat} {xs : List Value} {T : TypeId} {p : Pa} {s : St} {sn : Sn} {q r g : Int} {n : Nat} (h : Blk w b (setAll xs o (pac ⟨s, sn, q, r, g, n⟩)) T) (hp : Part xs o (pac p)) (v : Nat) : Blk (w.setCell ⟨b, o + 14, none⟩ (.int .u32 v)) b (setAll xs o (pac ⟨s, sn, q, r, g, v⟩)) T := h.pset hp 14 (by omega) _ _ rfl
set_option maxHeartbeats 400000 in
theorem state_any (b o : Nat) (xs : List Value) (T : TypeId) (p : Pa) (w : World) (hb : Blk w b xs T) (hp : Part xs o (pac p)) :
    Calls Try.prog 32 #[.pointer (some ⟨b, o, none⟩)] w fun e w' => e = .returned (.int .i64 (stateI p.quiet)) ∧ w = w' := by
  have c := hb.part hp 11 _ rfl
  clear hb hp
  rcases (show p.quiet < 20 ∨ (20 ≤ p.quiet ∧ p.quiet < 60) ∨ 60 ≤ p.quiet by omega) with h | ⟨h, h2⟩ | h
  · have z := Lib.hid (show stateI p.quiet = 0 by unfold stateI; rw [if_neg (by omega), if_neg (by omega)])
    go_enter Try.func32, Try.ntmps32
    go_wp2
    go_ret
    exact ⟨by rw [z.out]; rfl, rfl⟩
  · have z := Lib.hid (show stateI p.quiet = 1 by unfold stateI; rw [if_neg (by omega), if_pos (by omega)])
    go_enter Try.func32, Try.ntmps32
    go_wp2
    go_ret
    exact ⟨by rw [z.out]; rfl, rfl⟩
  · have z := Lib.hid (show stateI p.quiet = 2 by unfold stateI; rw [if_pos (by omega)])
    go_enter Try.func32, Try.ntmps32
    go_wp2
    go_ret
    exact ⟨by rw [z.out]; rfl, rfl⟩
theorem stateI_0 (q : Int) (h : q < 20) : stateI q = 0 := by unfold stateI; rw [if_neg (by omega), if_neg (by omega)]
theorem stateI_1 (q : Int) (h : 20 ≤ q) : (stateI q == 0) = false := by
  rw [beq_eq_false_iff_ne]
  unfold stateI
  rw [if_pos h]
  split <;> omega
/-- A fact that no tactic of the walk looks into ('Hid' is a plain definition: 'contradiction' opens it). -/
structure Hx (p : Prop) : Prop where
  out : p
theorem hx {p : Prop} (h : p) : Hx p := ⟨h⟩
set_option maxHeartbeats 1600000 in
theorem tick_any (b o : Nat) (xs : List Value) (T : TypeId) (p : Pa) (w : World) (hb : Blk w b xs T) (hp : Part xs o (pac p)) (hq0 : 0 ≤ p.quiet) (hq1 : p.quiet ≤ 1000000) (hg0 : 0 ≤ p.gap) (hg1 : p.gap ≤ 80) (hr0 : 0 ≤ p.probe) (hr1 : p.probe ≤ 80) :
    Calls Try.prog 24 #[.pointer (some ⟨b, o, none⟩)] w fun e w' => e = .returned (.bool (tickP p).2) ∧ Blk w' b (setAll xs o (pac (tickP p).1)) T ∧ Kept [b] w w' := by
  have c11 := hb.part hp 11 _ rfl
  have c12 := hb.part hp 12 _ rfl
  have c13 := hb.part hp 13 _ rfl
  have hf := hb.free
  have hb' : Blk w b (setAll xs o (pac p)) T := by rw [hp.self]; exact hb
  have b1 : Blk _ b (setAll xs o (pac ⟨p.s, p.seen, p.quiet + 1, p.probe, p.gap, p.next⟩)) T := Blk.pquiet (s := p.s) (sn := p.seen) (q := p.quiet) (r := p.probe) (g := p.gap) (n := p.next) hb' hp (p.quiet + 1)
  have k1 := (Kept.refl [b] w).setCell (p := ⟨b, o + 11, none⟩) (.inl (by simp)) (.int .i64 (p.quiet + 1))
  have HS := hx (state_any b o _ T ⟨p.s, p.seen, p.quiet + 1, p.probe, p.gap, p.next⟩ _ b1 (hp.setAll _ rfl))
  dsimp only at HS
  by_cases h1 : p.quiet + 1 < 20
  · have z := hx (show tickP p = ({ p with quiet := p.quiet + 1, probe := 0, gap := 0 }, false) by unfold tickP; rw [if_pos h1])
    rw [stateI_0 _ h1] at HS
    have E := hx (show Blk _ b (setAll xs o (pac ⟨p.s, p.seen, p.quiet + 1, 0, 0, p.next⟩)) T from (b1.pprobe hp 0).pgap hp 0)
    have K := hx ((k1.setCell (p := ⟨b, o + 12, none⟩) (.inl (by simp)) (.int .i64 0)).setCell (p := ⟨b, o + 13, none⟩) (.inl (by simp)) (.int .i64 0))
    clear hb hp hb' b1 k1
    go_enter Try.func24, Try.ntmps24
    go_wp2_with fail
    refine HS.out.mono ?_
    rintro e w1 ⟨rfl, rfl⟩
    go_wp2
    go_ret
    exact ⟨by rw [z.out]; rfl, by rw [z.out]; exact E.out, K.out⟩
  · have s1 := stateI_1 (p.quiet + 1) (by omega)
    generalize stateI (p.quiet + 1) = y at *
    by_cases h2 : p.gap = 0
    · have z := hx (show tickP p = ({ p with quiet := p.quiet + 1, probe := 5, gap := 10 }, true) by unfold tickP; rw [if_neg h1, if_pos h2])
      have e1 := (b1.pgap hp 5).pprobe hp 1
      have d12 := e1.part (hp.setAll _ rfl) 12 (.int .i64 1) rfl
      have d13 := e1.part (hp.setAll _ rfl) 13 (.int .i64 5) rfl
      have df := e1.free
      have E := hx (show Blk _ b (setAll xs o (pac ⟨p.s, p.seen, p.quiet + 1, 5, 10, p.next⟩)) T from ((e1.pprobe hp 0).pprobe hp 5).pgap hp 10)
      have K := hx (((((k1.setCell (p := ⟨b, o + 13, none⟩) (.inl (by simp)) (.int .i64 5)).setCell (p := ⟨b, o + 12, none⟩) (.inl (by simp)) (.int .i64 1)).setCell (p := ⟨b, o + 12, none⟩) (.inl (by simp)) (.int .i64 0)).setCell (p := ⟨b, o + 12, none⟩) (.inl (by simp)) (.int .i64 5)).setCell (p := ⟨b, o + 13, none⟩) (.inl (by simp)) (.int .i64 10))
      rw [h2] at c13
      clear hb hp hb' b1 k1 h2 e1
      have D := hx (And.intro d12 (And.intro d13 df))
      clear d12 d13 df
      go_enter Try.func24, Try.ntmps24
      go_wp2_with fail
      refine HS.out.mono ?_
      rintro e w1 ⟨rfl, rfl⟩
      go_upto_region 8 with fail
      clear c11 c12 c13 hf HS
      obtain ⟨d12, d13, df⟩ := D.out
      clear D
      generalize ((w.setCell ⟨b, o + 11, none⟩ (.int .i64 (p.quiet + 1))).setCell ⟨b, o + 13, none⟩ (.int .i64 5)).setCell ⟨b, o + 12, none⟩ (.int .i64 1) = W2 at *
      go_wp2
      go_ret
      exact ⟨by rw [z.out]; rfl, by rw [z.out]; exact E.out, K.out⟩
    · have s2 : (p.gap == 0) = false := by rw [beq_eq_false_iff_ne]; exact h2
      have b2 := b1.pprobe hp (p.probe - 1)
      have k2 := k1.setCell (p := ⟨b, o + 12, none⟩) (.inl (by simp)) (.int .i64 (p.probe - 1))
      by_cases h3 : 1 < p.probe
      · have z := hx (show tickP p = ({ p with quiet := p.quiet + 1, probe := p.probe - 1 }, false) by unfold tickP; rw [if_neg h1, if_neg h2, if_pos h3])
        have E := hx (show Blk _ b (setAll xs o (pac ⟨p.s, p.seen, p.quiet + 1, p.probe - 1, p.gap, p.next⟩)) T from b2)
        have K := hx k2
        clear hb hp hb' b1 k1 b2 k2
        go_enter Try.func24, Try.ntmps24
        go_wp2_with fail
        refine HS.out.mono ?_
        rintro e w1 ⟨rfl, rfl⟩
        go_wp2
        go_ret
        exact ⟨by rw [z.out]; rfl, by rw [z.out]; exact E.out, K.out⟩
      · by_cases h4 : 80 < 2 * p.gap
        · have z := hx (show tickP p = ({ p with quiet := p.quiet + 1, probe := p.gap, gap := 80 }, true) by
            unfold tickP; rw [if_neg h1, if_neg h2, if_neg h3, show min (2 * p.gap) 80 = 80 by omega])
          have E := hx (show Blk _ b (setAll xs o (pac ⟨p.s, p.seen, p.quiet + 1, p.gap, 80, p.next⟩)) T from (b2.pprobe hp p.gap).pgap hp (80))
          have K := hx ((k2.setCell (p := ⟨b, o + 12, none⟩) (.inl (by simp)) (.int .i64 p.gap)).setCell (p := ⟨b, o + 13, none⟩) (.inl (by simp)) (.int .i64 (80)))
          clear hb hp hb' b1 k1 b2 k2
          go_enter Try.func24, Try.ntmps24
          go_wp2_with fail
          refine HS.out.mono ?_
          rintro e w1 ⟨rfl, rfl⟩
          go_wp2
          go_ret
          exact ⟨by rw [z.out]; rfl, by rw [z.out]; exact E.out, K.out⟩
        · have z := hx (show tickP p = ({ p with quiet := p.quiet + 1, probe := p.gap, gap := 2 * p.gap }, true) by
            unfold tickP; rw [if_neg h1, if_neg h2, if_neg h3, show min (2 * p.gap) 80 = 2 * p.gap by omega])
          have E := hx (show Blk _ b (setAll xs o (pac ⟨p.s, p.seen, p.quiet + 1, p.gap, 2 * p.gap, p.next⟩)) T from (b2.pprobe hp p.gap).pgap hp (2 * p.gap))
          have K := hx ((k2.setCell (p := ⟨b, o + 12, none⟩) (.inl (by simp)) (.int .i64 p.gap)).setCell (p := ⟨b, o + 13, none⟩) (.inl (by simp)) (.int .i64 (2 * p.gap)))
          clear hb hp hb' b1 k1 b2 k2
          go_enter Try.func24, Try.ntmps24
          go_wp2_with fail
          refine HS.out.mono ?_
          rintro e w1 ⟨rfl, rfl⟩
          go_wp2
          go_ret
          exact ⟨by rw [z.out]; rfl, by rw [z.out]; exact E.out, K.out⟩
end Go.Proofs.Ytgdofgckjkmhjaa
