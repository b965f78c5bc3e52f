import Derived.Test.YthpdoekeooedfaaPrioD
namespace Go.Proofs.Ythpdoekeooedfaa
open Go Go.RowKit
set_option maxRecDepth 100000 in
set_option maxHeartbeats 3200000 in
theorem last_any (q g cap : Nat) (room turns : Int) (h : List It) (rest : List Value) (w : World) (m : Qm w q g cap room turns h rest) (h0 : 0 < h.length) (hb : h.length ≤ 1000000) :
    Calls Try.prog 19 #[.pointer (some ⟨q, 0, none⟩)] w fun e w' => e = .returned (.int .i64 (lastK h h.length)) ∧ Kept [] w w' := by
  have hc2 := m.hq.cell (i := 2) rfl
  have hc2' : w.cell? ⟨q, 2, none⟩ = some (.slice (some ⟨g, 0, none⟩) h.length cap) := hc2
  clear hc2
  go_enter Try.func19, Try.ntmps19
  go_wp2
  go_loopw [3, 10] (fun kv nv wr => ∃ n : Nat, n ≤ h.length ∧ nv = .int .i64 n ∧ kv = .int .i64 (lastK h n) ∧ Kept [] w wr) (fun _ nv _ => h.length - (intOf nv).toNat)
  case atStart => exact ⟨0, by omega, rfl, rfl, Kept.refl _ _⟩
  case round =>
    obtain ⟨n, hn, rfl, rfl, hk⟩ := hrel
    clear hc2'
    by_cases hlt : n < h.length
    · have m' := m.kept hk
      obtain ⟨k, hkk⟩ : ∃ k, k = lastK h n := ⟨_, rfl⟩
      have hkl : k < h.length := by have := lastK_lt h n; rw [hkk]; omega
      have HK := Lib.hid hkk
      have HS0 := Lib.hid (show lastK h (n + 1) = if ahB (at_ h k) (at_ h n) = true then n else k by rw [hkk]; rfl)
      rw [← hkk]
      clear hkk
      have hSS := m'.s2 k n hkl hlt
      have HSS : ∀ w3 w4 : World, (w3.cell? ⟨q, 2, none⟩ = some (.slice (some ⟨g, 0, none⟩) h.length cap) ∧ ((w3.cell? ⟨g, k * 3, none⟩ = some (.int .i64 (at_ h k).rank) ∧ w3.cell? ⟨g, k * 3 + 1, none⟩ = some (.int .i64 (at_ h k).turn) ∧ w3.cell? ⟨g, k * 3 + 2, none⟩ = some (.int .i64 (at_ h k).v)) ∧ (w3.cell? ⟨g, n * 3, none⟩ = some (.int .i64 (at_ h n).rank) ∧ w3.cell? ⟨g, n * 3 + 1, none⟩ = some (.int .i64 (at_ h n).turn) ∧ w3.cell? ⟨g, n * 3 + 2, none⟩ = some (.int .i64 (at_ h n).v))) ∧ Kept [] wr w3) → Kept [] w3 w4 → (w4.cell? ⟨q, 2, none⟩ = some (.slice (some ⟨g, 0, none⟩) h.length cap) ∧ ((w4.cell? ⟨g, k * 3, none⟩ = some (.int .i64 (at_ h k).rank) ∧ w4.cell? ⟨g, k * 3 + 1, none⟩ = some (.int .i64 (at_ h k).turn) ∧ w4.cell? ⟨g, k * 3 + 2, none⟩ = some (.int .i64 (at_ h k).v)) ∧ (w4.cell? ⟨g, n * 3, none⟩ = some (.int .i64 (at_ h n).rank) ∧ w4.cell? ⟨g, n * 3 + 1, none⟩ = some (.int .i64 (at_ h n).turn) ∧ w4.cell? ⟨g, n * 3 + 2, none⟩ = some (.int .i64 (at_ h n).v))) ∧ Kept [] wr w4) := fun w3 w4 hs hk4 => S2.kept hs hk4
      have HS := Lib.hid HSS
      clear HSS
      have i1 : (k : Int) < (h.length : Int) := by omega
      have i2 : (n : Int) < (h.length : Int) := by omega
      have i3 : (0 : Int) ≤ (k : Int) := by omega
      have i4 : (0 : Int) ≤ (n : Int) := by omega
      have i5 : decide (n < h.length) = true := by simp; omega
      go_upto_region 5 with fail
      go_cut [27] (fun s27 wx => s27 = .bool (ahB (at_ h k) (at_ h n)) ∧ Kept [] wr wx)
      case first =>
        go_region_held3 (fun w' => w'.cell? ⟨q, 2, none⟩ = some (.slice (some ⟨g, 0, none⟩) h.length cap) ∧ ((w'.cell? ⟨g, k * 3, none⟩ = some (.int .i64 (at_ h k).rank) ∧ w'.cell? ⟨g, k * 3 + 1, none⟩ = some (.int .i64 (at_ h k).turn) ∧ w'.cell? ⟨g, k * 3 + 2, none⟩ = some (.int .i64 (at_ h k).v)) ∧ (w'.cell? ⟨g, n * 3, none⟩ = some (.int .i64 (at_ h n).rank) ∧ w'.cell? ⟨g, n * 3 + 1, none⟩ = some (.int .i64 (at_ h n).turn) ∧ w'.cell? ⟨g, n * 3 + 2, none⟩ = some (.int .i64 (at_ h n).v))) ∧ Kept [] wr w') (first | exact hSS | exact HS.out _ _ hSS ((Kept.refl _ _).drew) | assumption)
          (first | (go_at_call 24; refine (ahead_any (at_ h k) (at_ h n) _).mono ?_; rintro e w' ⟨rfl, hk4⟩; have hSS := HS.out _ _ ‹_› hk4))
        all_goals (go_wp2_with fail)
        all_goals (go_meet; exact ⟨rfl, by first | exact hSS.2.2 | assumption⟩)
      case rest =>
        obtain ⟨rfl, hkx⟩ := hcut
        have hk2 := hk.trans0 hkx
        clear HS hSS m' hk hkx
        cases hc : ahB (at_ h k) (at_ h n)
        · have HE := Lib.hid (show (lastK h (n + 1) : Int) = (k : Int) by rw [HS0.out, if_neg (by simp [hc])])
          clear hc
          go_wp2
          go_roundw
          case rel => exact ⟨n + 1, by omega, by go_num, congrArg (Value.int .i64) HE.out.symm, hk2⟩
          case measure => simp [intOf] <;> omega
        · have HE := Lib.hid (show (lastK h (n + 1) : Int) = (n : Int) by rw [HS0.out, if_pos hc])
          clear hc
          go_wp2
          go_roundw
          case rel => exact ⟨n + 1, by omega, by go_num, congrArg (Value.int .i64) HE.out.symm, hk2⟩
          case measure => simp [intOf] <;> omega
    · obtain rfl : n = h.length := by omega
      go_wp2
      go_ret
      exact ⟨rfl, hk⟩
set_option maxRecDepth 100000 in
set_option maxHeartbeats 800000 in
theorem new_any (room : Int) (w : World) (h1 : 1 ≤ room) (h2 : room ≤ 256) :
    Calls Try.prog 8 #[.int .i64 room] w fun e w' => e = .returned (.tuple #[.pointer (some ⟨w.heap.size, 0, none⟩), .int .i64 0]) ∧ Blk w' w.heap.size [.int .i64 room, .int .i64 0, .slice none 0 0] 53 ∧ Kept [] w w' := by
  have g1 : decide (room < 1) = false := by simp; omega
  have g2 : decide (256 < room) = false := by simp; omega
  go_enter Try.func8, Try.ntmps8
  go_wp2
  go_ret2
  exact ⟨rfl, Blk.new' _ _ _, (Kept.refl _ _).alloc _⟩
end Go.Proofs.Ythpdoekeooedfaa
