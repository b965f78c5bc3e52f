import Derived.Test.YthpdoekeooedfaaPrioM
namespace Go.Proofs.Ythpdoekeooedfaa
open Go Go.RowKit
/-- Where an item's cells lie: all that the walk asks of a world. -/
def At3 (w : World) (g o : Nat) (x : It) : Prop := w.cell? ⟨g, o, none⟩ = some (.int .i64 x.rank) ∧ w.cell? ⟨g, o + 1, none⟩ = some (.int .i64 x.turn) ∧ w.cell? ⟨g, o + 2, none⟩ = some (.int .i64 x.v)
theorem kept_cell {w w' : World} {p : Addr} {v : Value} (hk : Kept [] w w') (h : w.cell? p = some v) : w'.cell? p = some v := by
  rw [hk.cell (block_lt_of_cell h) (by simp)]; exact h
set_option maxRecDepth 100000 in
set_option maxHeartbeats 3200000 in
theorem up_any (q g cap i0 : Nat) (room turns : Int) (h0 : List It) (rest : List Value) (w : World) (m0 : Qm w q g cap room turns h0 rest) (hi0 : i0 < h0.length) (hb : h0.length ≤ 1000000) :
    Calls Try.prog 17 #[.pointer (some ⟨q, 0, none⟩), .int .i64 i0] w fun e w' => e = .returned (.tuple #[]) ∧ Qm w' q g cap room turns (upL h0 i0) rest ∧ Kept [g] w w' := by
  go_enter Try.func17, Try.ntmps17
  go_wp2
  go_loopw [1] (fun iv wr => ∃ (i : Nat) (h : List It), iv = .int .i64 i ∧ i < h.length ∧ h.length = h0.length ∧ upL h i = upL h0 i0 ∧ Qm wr q g cap room turns h rest ∧ Kept [g] w wr) (fun iv _ => (intOf iv).toNat)
  case atStart => exact ⟨i0, h0, rfl, hi0, rfl, rfl, m0, Kept.refl _ _⟩
  case round =>
    obtain ⟨i, h, rfl, hi, hlen, hup, m, hk⟩ := hrel
    have hib : (i : Int) ≤ 1000000 := by omega
    have HL := Lib.hid hlen
    have HU := Lib.hid hup
    clear hlen hup m0
    rcases Nat.eq_zero_or_pos i with rfl | hpos
    · rw [up_zero] at HU
      go_wp2
      go_end0
      exact ⟨rfl, by rw [← HU.out]; exact m, hk⟩
    · have hpl := par_lt hpos
      obtain ⟨p, hp⟩ : ∃ p, p = par i := ⟨_, rfl⟩
      have hpi : ((i : Int) - 1) / 2 = (p : Int) := by rw [hp]; unfold par; omega
      have hc2 := m.hq.cell (i := 2) rfl
      obtain ⟨a1, a2, a3⟩ := m.at i hi
      obtain ⟨b1, b2, b3⟩ := m.at p (by omega)
      have hi1 : (i : Int) < (h.length : Int) := by omega
      have hp1 : (p : Int) < (h.length : Int) := by omega
      have hplt : p < i := by omega
      have hi0' : (0 : Int) < (i : Int) := by omega
      have HP := Lib.hid hp
      clear hp hpl
      have hS : ∀ w3 w4 : World, (w3.cell? ⟨q, 2, none⟩ = some (.slice (some ⟨g, 0, none⟩) h.length cap) ∧ (At3 w3 g (i * 3) (at_ h i) ∧ At3 w3 g (p * 3) (at_ h p)) ∧ Kept [] wr w3) → Kept [] w3 w4 → (w4.cell? ⟨q, 2, none⟩ = some (.slice (some ⟨g, 0, none⟩) h.length cap) ∧ (At3 w4 g (i * 3) (at_ h i) ∧ At3 w4 g (p * 3) (at_ h p)) ∧ Kept [] wr w4) := fun w3 w4 hs hk4 =>
        ⟨kept_cell hk4 hs.1, ⟨⟨kept_cell hk4 hs.2.1.1.1, kept_cell hk4 hs.2.1.1.2.1, kept_cell hk4 hs.2.1.1.2.2⟩, ⟨kept_cell hk4 hs.2.1.2.1, kept_cell hk4 hs.2.1.2.2.1, kept_cell hk4 hs.2.1.2.2.2⟩⟩, hs.2.2.trans0 hk4⟩
      have HS := Lib.hid hS
      clear hS
      go_upto_region 2 with fail
      rw [hpi]
      go_cut [25] (fun s25 wx => s25 = .bool (!ahB (at_ h i) (at_ h p)) ∧ Kept [] wr wx)
      case first =>
        have hSS : wr.cell? ⟨q, 2, none⟩ = some (.slice (some ⟨g, 0, none⟩) h.length cap) ∧ (At3 wr g (i * 3) (at_ h i) ∧ At3 wr g (p * 3) (at_ h p)) ∧ Kept [] wr wr := ⟨hc2, ⟨⟨a1, a2, a3⟩, ⟨b1, b2, b3⟩⟩, Kept.refl _ _⟩
        go_region_held3 (fun w' => w'.cell? ⟨q, 2, none⟩ = some (.slice (some ⟨g, 0, none⟩) h.length cap) ∧ ((w'.cell? ⟨g, i * 3, none⟩ = some (.int .i64 (at_ h i).rank) ∧ w'.cell? ⟨g, i * 3 + 1, none⟩ = some (.int .i64 (at_ h i).turn) ∧ w'.cell? ⟨g, i * 3 + 2, none⟩ = some (.int .i64 (at_ h i).v)) ∧ (w'.cell? ⟨g, p * 3, none⟩ = some (.int .i64 (at_ h p).rank) ∧ w'.cell? ⟨g, p * 3 + 1, none⟩ = some (.int .i64 (at_ h p).turn) ∧ w'.cell? ⟨g, p * 3 + 2, none⟩ = some (.int .i64 (at_ h p).v))) ∧ Kept [] wr w') (first | exact hSS | exact HS.out _ _ hSS ((Kept.refl _ _).drew) | assumption)
          (first | (go_at_call 24; refine (ahead_any (at_ h i) (at_ h p) _).mono ?_; rintro e w' ⟨rfl, hk4⟩; have hSS := HS.out _ _ ‹_› hk4))
        all_goals (go_wp2_with fail)
        all_goals (go_meet; exact ⟨rfl, by first | exact hSS.2.2 | assumption⟩)
      case rest =>
        obtain ⟨rfl, hkx⟩ := hcut
        have m' := m.kept hkx
        have hk' := hk.trans0 hkx
        clear m hk hkx hc2 a1 a2 a3 b1 b2 b3 HS
        cases hc : ahB (at_ h i) (at_ h p)
        · have HC := Lib.hid hc
          clear hc
          go_wp2
          exact bodyPost_ret (results_none rfl _ _ _) rfl ⟨rfl, by rw [← HU.out, up_stop _ _ (HP.out ▸ HC.out)]; exact m', hk'⟩
        · have HC := Lib.hid hc
          clear hc
          have hc2 := m'.hq.cell (i := 2) rfl
          obtain ⟨a1, a2, a3⟩ := m'.at i hi
          obtain ⟨b1, b2, b3⟩ := m'.at p (by omega)
          have f1 := m'.hg.free
          go_upto_region 3 with fail
          go_cut [1] (fun s1 wx => s1 = .int .i64 i ∧ Qm wx q g cap room turns (swapL h i p) rest ∧ Kept [g] w wx)
          case first =>
            go_region
            go_wp2_with fail
            go_meet
            have m2 := (m'.put i hi (at_ h p)).put p (by rw [List.length_set]; omega) (at_ h i)
            exact ⟨rfl, ⟨m2.hq.drew, m2.hg.drew, m2.hl, m2.hcap, m2.hrest, m2.hne⟩, ((hk'.put3 (.inl (by simp)) _ _).put3 (.inl (by simp)) _ _).drew⟩
          case rest =>
            obtain ⟨rfl, m2, hk2⟩ := hcut
            clear m' hk' hc2 a1 a2 a3 b1 b2 b3 f1
            go_wp2
            go_roundw
            case rel => exact ⟨p, swapL h i p, rfl, by rw [swap_len]; omega, by rw [swap_len]; exact HL.out, by rw [← HU.out, up_go h i (by omega) (HP.out ▸ HC.out), ← HP.out], m2, hk2⟩
            case measure => simp [intOf] <;> omega
end Go.Proofs.Ythpdoekeooedfaa
