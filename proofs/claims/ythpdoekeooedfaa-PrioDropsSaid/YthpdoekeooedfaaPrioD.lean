import Derived.Test.YthpdoekeooedfaaPrioU
namespace Go.Proofs.Ythpdoekeooedfaa
open Go Go.RowKit
/-- What a region that compares two items asks of a world. -/
def S2 (wr w3 : World) (q g n cap o1 o2 : Nat) (x y : It) : Prop :=
  w3.cell? ⟨q, 2, none⟩ = some (.slice (some ⟨g, 0, none⟩) n cap) ∧ (At3 w3 g o1 x ∧ At3 w3 g o2 y) ∧ Kept [] wr w3
theorem S2.kept {wr w3 w4 : World} {q g n cap o1 o2 : Nat} {x y : It} (hs : S2 wr w3 q g n cap o1 o2 x y) (hk4 : Kept [] w3 w4) : S2 wr w4 q g n cap o1 o2 x y :=
  ⟨kept_cell hk4 hs.1, ⟨⟨kept_cell hk4 hs.2.1.1.1, kept_cell hk4 hs.2.1.1.2.1, kept_cell hk4 hs.2.1.1.2.2⟩, ⟨kept_cell hk4 hs.2.1.2.1, kept_cell hk4 hs.2.1.2.2.1, kept_cell hk4 hs.2.1.2.2.2⟩⟩, hs.2.2.trans0 hk4⟩
theorem Qm.s2 {w : World} {q g cap : Nat} {room turns : Int} {h : List It} {rest : List Value} (m : Qm w q g cap room turns h rest) (i j : Nat) (hi : i < h.length) (hj : j < h.length) : S2 w w q g h.length cap (i * 3) (j * 3) (at_ h i) (at_ h j) :=
  ⟨m.hq.cell (i := 2) rfl, ⟨m.at i hi, m.at j hj⟩, Kept.refl _ _⟩
set_option maxRecDepth 100000 in
set_option maxHeartbeats 6400000 in
theorem down_any (q g cap i0 : Nat) (room turns : Int) (h0 : List It) (rest : List Value) (w : World) (m0 : Qm w q g cap room turns h0 rest) (hi0 : i0 < h0.length) (hb : h0.length ≤ 1000000) :
    Calls Try.prog 25 #[.pointer (some ⟨q, 0, none⟩), .int .i64 i0] w fun e w' => e = .returned (.tuple #[]) ∧ Qm w' q g cap room turns (downL h0 i0) rest ∧ Kept [g] w w' := by
  go_enter Try.func25, Try.ntmps25
  go_wp2
  go_loopw [1] (fun iv wr => ∃ (i : Nat) (h : List It), iv = .int .i64 i ∧ i < h.length ∧ h.length = h0.length ∧ downL h i = downL h0 i0 ∧ Qm wr q g cap room turns h rest ∧ Kept [g] w wr) (fun iv _ => h0.length - (intOf iv).toNat)
  case atStart => exact ⟨i0, h0, rfl, hi0, rfl, rfl, m0, Kept.refl _ _⟩
  case round =>
    obtain ⟨i, h, rfl, hi, hlen, hup, m, hk⟩ := hrel
    have hib : (i : Int) < 1000000 := by omega
    have hlb : (h.length : Int) ≤ 1000000 := by omega
    have hib0 : (0 : Int) ≤ (i : Int) := by omega
    have HL := Lib.hid hlen
    have HU := Lib.hid hup
    clear hlen hup m0
    have hc2 := m.hq.cell (i := 2) rfl
    have hc2' : wr.cell? ⟨q, 2, none⟩ = some (.slice (some ⟨g, 0, none⟩) h.length cap) := hc2
    by_cases hend : 2 * i + 1 < h.length
    · obtain ⟨k, hk0⟩ : ∃ k, k = 2 * i + 1 := ⟨_, rfl⟩
      have hkI : 2 * (i : Int) + 1 = (k : Int) := by omega
      have t1 : ¬ (h.length : Int) ≤ (k : Int) := by omega
      have hkl : k < h.length := by omega
      have hki := Lib.hid (show kid h i = if k + 1 < h.length ∧ ahB (at_ h (k + 1)) (at_ h k) = true then k + 1 else k by rw [hk0]; rfl)
      have hK := Lib.hid hk0
      have hkb : (k : Int) ≤ 1000000 := by omega
      have hkn : (0 : Int) ≤ (k : Int) := by omega
      have hkl2 : (k : Int) < (h.length : Int) := by omega
      clear hc2 hk0
      go_upto_region 2 with fail
      clear hkI
      go_cut [40] (fun s40 wx => s40 = .bool (decide (k + 1 < h.length) && ahB (at_ h (k + 1)) (at_ h k)) ∧ Kept [] wr wx)
      case first =>
        by_cases h2 : k + 1 < h.length
        · have D2 := Lib.hid (show decide (k + 1 < h.length) = true by simp [h2])
          have hSS := m.s2 (k + 1) k h2 hkl
          have HSS : ∀ w3 w4 : World, (w3.cell? ⟨q, 2, none⟩ = some (.slice (some ⟨g, 0, none⟩) h.length cap) ∧ ((w3.cell? ⟨g, (k + 1) * 3, none⟩ = some (.int .i64 (at_ h (k + 1)).rank) ∧ w3.cell? ⟨g, (k + 1) * 3 + 1, none⟩ = some (.int .i64 (at_ h (k + 1)).turn) ∧ w3.cell? ⟨g, (k + 1) * 3 + 2, none⟩ = some (.int .i64 (at_ h (k + 1)).v)) ∧ (w3.cell? ⟨g, k * 3, none⟩ = some (.int .i64 (at_ h k).rank) ∧ w3.cell? ⟨g, k * 3 + 1, none⟩ = some (.int .i64 (at_ h k).turn) ∧ w3.cell? ⟨g, k * 3 + 2, none⟩ = some (.int .i64 (at_ h k).v))) ∧ Kept [] wr w3) → Kept [] w3 w4 → (w4.cell? ⟨q, 2, none⟩ = some (.slice (some ⟨g, 0, none⟩) h.length cap) ∧ ((w4.cell? ⟨g, (k + 1) * 3, none⟩ = some (.int .i64 (at_ h (k + 1)).rank) ∧ w4.cell? ⟨g, (k + 1) * 3 + 1, none⟩ = some (.int .i64 (at_ h (k + 1)).turn) ∧ w4.cell? ⟨g, (k + 1) * 3 + 2, none⟩ = some (.int .i64 (at_ h (k + 1)).v)) ∧ (w4.cell? ⟨g, k * 3, none⟩ = some (.int .i64 (at_ h k).rank) ∧ w4.cell? ⟨g, k * 3 + 1, none⟩ = some (.int .i64 (at_ h k).turn) ∧ w4.cell? ⟨g, k * 3 + 2, none⟩ = some (.int .i64 (at_ h k).v))) ∧ Kept [] wr w4) := fun w3 w4 hs hk4 => S2.kept hs hk4
          have HS := Lib.hid HSS
          clear HSS
          have j1 : (k : Int) + 1 < (h.length : Int) := by omega
          have j2 : decide ((k : Int) + 1 < (h.length : Int)) = true := by simp; omega
          have j3 := D2.out
          have jw : IntKind.i64.wrap ((k : Int) + 1) = (k : Int) + 1 := by rw [IntKind.wrap_i64]; omega
          have jn : (0 : Int) ≤ (k : Int) + 1 := by omega
          have jt : ((k : Int) + 1).toNat = k + 1 := by omega
          go_region_held3 (fun w' => w'.cell? ⟨q, 2, none⟩ = some (.slice (some ⟨g, 0, none⟩) h.length cap) ∧ ((w'.cell? ⟨g, (k + 1) * 3, none⟩ = some (.int .i64 (at_ h (k + 1)).rank) ∧ w'.cell? ⟨g, (k + 1) * 3 + 1, none⟩ = some (.int .i64 (at_ h (k + 1)).turn) ∧ w'.cell? ⟨g, (k + 1) * 3 + 2, none⟩ = some (.int .i64 (at_ h (k + 1)).v)) ∧ (w'.cell? ⟨g, k * 3, none⟩ = some (.int .i64 (at_ h k).rank) ∧ w'.cell? ⟨g, k * 3 + 1, none⟩ = some (.int .i64 (at_ h k).turn) ∧ w'.cell? ⟨g, k * 3 + 2, none⟩ = some (.int .i64 (at_ h k).v))) ∧ Kept [] wr w') (first | exact hSS | exact HS.out _ _ hSS ((Kept.refl _ _).drew) | assumption)
            (first | (go_at_call 24; refine (ahead_any (at_ h (k + 1)) (at_ h k) _).mono ?_; rintro e w' ⟨rfl, hk4⟩; have hSS := HS.out _ _ ‹_› hk4))
          all_goals (go_wp2_with fail)
          all_goals (go_meet; exact ⟨Eq.trans rfl (congrArg Value.bool (show ahB (at_ h (k + 1)) (at_ h k) = (decide (k + 1 < h.length) && ahB (at_ h (k + 1)) (at_ h k)) by rw [D2.out, Bool.true_and])), by first | exact hSS.2.2 | assumption⟩)
        · have D2 := Lib.hid (show decide (k + 1 < h.length) = false by simp [h2])
          have d3 : decide ((k : Int) + 1 < (h.length : Int)) = false := by simp; omega
          have d4 := D2.out
          have jw : IntKind.i64.wrap ((k : Int) + 1) = (k : Int) + 1 := by rw [IntKind.wrap_i64]; omega
          go_quiet (fail)
          all_goals (go_wp2_with fail)
          all_goals (go_meet; exact ⟨Eq.trans rfl (congrArg Value.bool (show false = (decide (k + 1 < h.length) && ahB (at_ h (k + 1)) (at_ h k)) by rw [D2.out, Bool.false_and])), (Kept.refl _ _).drewN _⟩)
      case rest =>
        obtain ⟨rfl, hkx⟩ := hcut
        have m' := m.kept hkx
        have hk' := hk.trans0 hkx
        clear m hk hkx hc2'
        obtain ⟨j, hj⟩ : ∃ j, j = kid h i := ⟨_, rfl⟩
        have hjl : j < h.length := by rw [hj]; exact kid_lt h i hend
        have hji : i < j := by rw [hj]; exact kid_gt h i
        have hJ := Lib.hid hj
        clear hj
        go_upto_if 40 with fail
        go_cut [4] (fun s4 wx => s4 = .int .i64 j ∧ wx = wc)
        case first =>
          by_cases hb2 : k + 1 < h.length ∧ ahB (at_ h (k + 1)) (at_ h k) = true
          · have e0 : (decide (k + 1 < h.length) && ahB (at_ h (k + 1)) (at_ h k)) = true := by simp [hb2.1, hb2.2]
            have e1 := Lib.hid (show ((k : Int) + 1) = (j : Int) by rw [hJ.out, hki.out, if_pos hb2]; omega)
            rw [e0]
            clear hb2 e0
            go_wp2_with fail
            go_meet
            exact ⟨Eq.trans rfl (congrArg (Value.int .i64) e1.out), rfl⟩
          · have e0 : (decide (k + 1 < h.length) && ahB (at_ h (k + 1)) (at_ h k)) = false := by
              cases hbb : (decide (k + 1 < h.length) && ahB (at_ h (k + 1)) (at_ h k))
              · rfl
              · simp at hbb; exact absurd hbb hb2
            have e1 := Lib.hid (show (k : Int) = (j : Int) by rw [hJ.out, hki.out, if_neg hb2])
            rw [e0]
            clear hb2 e0
            go_wp2_with fail
            go_meet
            exact ⟨Eq.trans rfl (congrArg (Value.int .i64) e1.out), rfl⟩
        case rest =>
          obtain ⟨rfl, rfl⟩ := hcut
          have hjn : (j : Int) < (h.length : Int) := by omega
          have hin : (i : Int) < (h.length : Int) := by omega
          have hj0 : (0 : Int) ≤ (j : Int) := by omega
          have hSS := m'.s2 j i hjl hi
          have HSS : ∀ w3 w4 : World, (w3.cell? ⟨q, 2, none⟩ = some (.slice (some ⟨g, 0, none⟩) h.length cap) ∧ ((w3.cell? ⟨g, j * 3, none⟩ = some (.int .i64 (at_ h j).rank) ∧ w3.cell? ⟨g, j * 3 + 1, none⟩ = some (.int .i64 (at_ h j).turn) ∧ w3.cell? ⟨g, j * 3 + 2, none⟩ = some (.int .i64 (at_ h j).v)) ∧ (w3.cell? ⟨g, i * 3, none⟩ = some (.int .i64 (at_ h i).rank) ∧ w3.cell? ⟨g, i * 3 + 1, none⟩ = some (.int .i64 (at_ h i).turn) ∧ w3.cell? ⟨g, i * 3 + 2, none⟩ = some (.int .i64 (at_ h i).v))) ∧ Kept [] wc w3) → Kept [] w3 w4 → (w4.cell? ⟨q, 2, none⟩ = some (.slice (some ⟨g, 0, none⟩) h.length cap) ∧ ((w4.cell? ⟨g, j * 3, none⟩ = some (.int .i64 (at_ h j).rank) ∧ w4.cell? ⟨g, j * 3 + 1, none⟩ = some (.int .i64 (at_ h j).turn) ∧ w4.cell? ⟨g, j * 3 + 2, none⟩ = some (.int .i64 (at_ h j).v)) ∧ (w4.cell? ⟨g, i * 3, none⟩ = some (.int .i64 (at_ h i).rank) ∧ w4.cell? ⟨g, i * 3 + 1, none⟩ = some (.int .i64 (at_ h i).turn) ∧ w4.cell? ⟨g, i * 3 + 2, none⟩ = some (.int .i64 (at_ h i).v))) ∧ Kept [] wc w4) := fun w3 w4 hs hk4 => S2.kept hs hk4
          have HS := Lib.hid HSS
          clear HSS
          go_upto_region 4 with fail
          go_cut [58] (fun s58 wx => s58 = .bool (!ahB (at_ h j) (at_ h i)) ∧ Kept [] wc wx)
          case first =>
            go_region_held3 (fun w' => w'.cell? ⟨q, 2, none⟩ = some (.slice (some ⟨g, 0, none⟩) h.length cap) ∧ ((w'.cell? ⟨g, j * 3, none⟩ = some (.int .i64 (at_ h j).rank) ∧ w'.cell? ⟨g, j * 3 + 1, none⟩ = some (.int .i64 (at_ h j).turn) ∧ w'.cell? ⟨g, j * 3 + 2, none⟩ = some (.int .i64 (at_ h j).v)) ∧ (w'.cell? ⟨g, i * 3, none⟩ = some (.int .i64 (at_ h i).rank) ∧ w'.cell? ⟨g, i * 3 + 1, none⟩ = some (.int .i64 (at_ h i).turn) ∧ w'.cell? ⟨g, i * 3 + 2, none⟩ = some (.int .i64 (at_ h i).v))) ∧ Kept [] wc w') (first | exact hSS | exact HS.out _ _ hSS ((Kept.refl _ _).drew) | assumption)
              (first | (go_at_call 24; refine (ahead_any (at_ h j) (at_ h i) _).mono ?_; rintro e w' ⟨rfl, hk4⟩; have hSS := HS.out _ _ ‹_› hk4))
            all_goals (go_wp2_with fail)
            all_goals (go_meet; exact ⟨rfl, by first | exact hSS.2.2 | assumption⟩)
          case rest =>
            obtain ⟨rfl, hkx⟩ := hcut
            have m2 := m'.kept hkx
            have hk2 := hk'.trans0 hkx
            have HEnd := Lib.hid hend
            have HB := Lib.hid (show i < h.length ∧ j < h.length ∧ i < j from ⟨hi, hjl, hji⟩)
            have MI := m2.at i hi
            have MJ := m2.at j hjl
            have HM := Lib.hid (And.intro MI MJ)
            have HM3 := Lib.hid ((m2.put i hi (at_ h j)).put j (by rw [List.length_set]; omega) (at_ h i))
            clear m' hk' hkx HS hSS hend t1 hkl hkb hkn hkl2 hji hjl hi hib hlb hib0 hb hi0 hj0 MI MJ
            cases hc : ahB (at_ h j) (at_ h i)
            · have HC := Lib.hid hc
              clear hc
              go_wp2
              exact bodyPost_ret (results_none rfl _ _ _) rfl ⟨rfl, by rw [← HU.out, down_stop _ _ (hJ.out ▸ HC.out)]; exact m2, hk2⟩
            · have HC := Lib.hid hc
              clear hc
              have hc2 := m2.hq.cell (i := 2) rfl
              obtain ⟨⟨a1, a2, a3⟩, ⟨b1, b2, b3⟩⟩ := HM.out
              have hji := HB.out.2.2
              have f1 := m2.hg.free
              go_upto_region 5 with fail
              go_cut [1] (fun s1 wx => s1 = .int .i64 i ∧ Qm wx q g cap room turns (swapL h i j) rest ∧ Kept [g] w wx)
              case first =>
                go_region
                go_wp2_with fail
                go_meet
                have m3 := HM3.out
                exact ⟨rfl, ⟨m3.hq.drew, m3.hg.drew, m3.hl, m3.hcap, m3.hrest, m3.hne⟩, ((hk2.put3 (.inl (by simp)) _ _).put3 (.inl (by simp)) _ _).drew⟩
              case rest =>
                obtain ⟨rfl, m3, hk3⟩ := hcut
                clear m2 hk2 hc2 a1 a2 a3 b1 b2 b3 f1
                go_wp2
                go_roundw
                case rel => exact ⟨j, swapL h i j, rfl, by rw [swap_len]; exact HB.out.2.1, by rw [swap_len]; exact HL.out, by rw [← HU.out, down_go h i HEnd.out (hJ.out ▸ HC.out), ← hJ.out], m3, hk3⟩
                case measure => have := HL.out; have := HB.out; simp [intOf] <;> omega
    · have t1 : (h.length : Int) ≤ 2 * (i : Int) + 1 := by omega
      go_wp2
      exact bodyPost_ret (results_none rfl _ _ _) rfl ⟨rfl, by rw [← HU.out, down_end _ _ hend]; exact m, hk⟩
end Go.Proofs.Ythpdoekeooedfaa
