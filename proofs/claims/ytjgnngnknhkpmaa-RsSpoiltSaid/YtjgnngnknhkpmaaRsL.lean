/- The law's helpers: small, few; codes that may not be; Rows. -/
import Derived.Test.YtjgnngnknhkpmaaRefE
namespace Go.Proofs.Ytjgnngnknhkpmaa
open Go Go.RowKit
def SmP (k m : Int) : Prop := 1 ≤ k ∧ 0 ≤ m ∧ k ≤ 20 ∧ m ≤ 20
set_option maxRecDepth 100000 in
set_option maxHeartbeats 1600000 in
theorem small_any (k m : Int) (w : World) :
    Calls Try.prog 9 #[.int .i64 k, .int .i64 m] w fun e w' => (SmP k m ∧ e = .returned (.bool true) ∨ ¬ SmP k m ∧ e = .returned (.bool false)) ∧ w = w' := by
  by_cases h1 : 1 ≤ k
  · by_cases h2 : 0 ≤ m
    · by_cases h3 : k ≤ 20
      · by_cases h4 : m ≤ 20
        · have hs := hx (show SmP k m from ⟨h1, h2, h3, h4⟩)
          go_enter Try.func9, Try.ntmps9
          go_wp2
          go_ret
          exact ⟨.inl ⟨hs.out, rfl⟩, rfl⟩
        · have hs := hx (fun h : SmP k m => h4 h.2.2.2)
          go_enter Try.func9, Try.ntmps9
          go_wp2
          go_ret
          exact ⟨.inr ⟨hs.out, rfl⟩, rfl⟩
      · have hs := hx (fun h : SmP k m => h3 h.2.2.1)
        go_enter Try.func9, Try.ntmps9
        go_wp2
        go_ret
        exact ⟨.inr ⟨hs.out, rfl⟩, rfl⟩
    · have hs := hx (fun h : SmP k m => h2 h.2.1)
      go_enter Try.func9, Try.ntmps9
      go_wp2
      go_ret
      exact ⟨.inr ⟨hs.out, rfl⟩, rfl⟩
  · have hs := hx (fun h : SmP k m => h1 h.1)
    go_enter Try.func9, Try.ntmps9
    go_wp2
    go_ret
    exact ⟨.inr ⟨hs.out, rfl⟩, rfl⟩
/-- What few tells. -/
def FewP (ls : List (List Nat)) : Prop := ls.length ≤ 40 ∧ ∀ j, j < ls.length → (rw ls j).length ≤ 1300
def FewR (ls : List (List Nat)) (w : World) (e : Ending) (w' : World) : Prop := (FewP ls ∧ e = .returned (.bool true) ∨ e = .returned (.bool false)) ∧ w = w'
set_option maxRecDepth 100000 in
set_option maxHeartbeats 1600000 in
theorem few_any (a : Option Addr) (c : Nat) (ls : List (List Nat)) (w : World) (hC : Cs w a ls) :
    Calls Try.prog 10 #[.slice a ls.length c] w (FewR ls w) := by
  generalize hPP : FewR ls w = PP
  have HP0 := hx (fun (h : FewP ls) => show PP (.returned (.bool true)) w by rw [← hPP]; exact ⟨.inl ⟨h, rfl⟩, rfl⟩)
  have HP1 := hx (show PP (.returned (.bool false)) w by rw [← hPP]; exact ⟨.inr rfl, rfl⟩)
  have HE := hx (fun (h1 : ls.length ≤ 40) (h2 : ∀ j, j < ls.length → (rw ls j).length ≤ 1300) => show FewP ls from ⟨h1, h2⟩)
  have HC := hx (fun i (hi : i < ls.length) => hC i hi)
  clear hPP hC
  generalize ls.length = k at *
  go_enter Try.func10, Try.ntmps10
  go_wp2_with fail
  go_loopw [3, 4] (fun nv iv wr => ∃ i n : Nat, i ≤ k ∧ i ≤ 40 ∧ n ≤ i * 1300 ∧ iv = .int .i64 i ∧ nv = .int .i64 n ∧ (∀ j, j < i → (rw ls j).length ≤ 1300) ∧ w = wr) (fun _ iv _ => 40 - (intOf iv).toNat)
  case atStart => exact ⟨0, 0, by omega, by omega, by omega, rfl, rfl, fun j hj => absurd hj (by omega), rfl⟩
  case round =>
    obtain ⟨i, n, hi, hi4, hn, rfl, rfl, hall, rfl⟩ := hrel
    have HA := hx hall
    clear hall
    by_cases hlt : i < k
    · have hji : (i : Int) < (k : Int) := by omega
      by_cases h40 : i < 40
      · have h40i : (i : Int) < 40 := by omega
        obtain ⟨bd, od, ai, ci, rfl, hcd, _⟩ := HC.out i hlt
        by_cases hq : (rw ls i).length ≤ 1300
        · obtain ⟨q, hqe⟩ : ∃ q, (rw ls i).length = q := ⟨_, rfl⟩
          have HQE := hx hqe
          rw [hqe] at hcd hq
          have HQ := hx hq
          clear hqe
          have hqi : (q : Int) ≤ 1300 := by omega
          go_wp2_with fail
          go_roundw
          case rel => exact ⟨i + 1, n + q, by omega, by omega, by omega, by go_num, by go_num, fun j hj => by
            by_cases hj2 : j < i
            · exact HA.out j hj2
            · have e : j = i := by omega
              rw [e, HQE.out]
              exact HQ.out, trivial⟩
          case measure => simp [intOf] <;> omega
        · generalize (rw ls i).length = q at *
          have hqi : ¬ (q : Int) ≤ 1300 := by omega
          go_wp2_with fail
          try go_ret
          exact HP1.out
      · have h40i : ¬ (i : Int) < 40 := by omega
        have hk4 : ¬ (k : Int) ≤ 40 := by omega
        go_wp2_with fail
        try go_ret
        exact HP1.out
    · obtain rfl : i = k := by omega
      have hk4 : (i : Int) ≤ 40 := by omega
      have HQ := hx (HP0.out (HE.out hi4 HA.out))
      by_cases hn3 : (n : Int) ≤ 3000
      · go_wp2_with fail
        try go_ret
        exact HQ.out
      · go_wp2_with fail
        try go_ret
        exact HP1.out
/-- May there be no such code? -/
def BadK (k m : Int) : Prop := k < 1 ∨ (1 ≤ k ∧ m < 0) ∨ (1 ≤ k ∧ 0 ≤ m ∧ 255 < k) ∨ (1 ≤ k ∧ 0 ≤ m ∧ k ≤ 255 ∧ 255 - k < m)
set_option maxRecDepth 100000 in
set_option maxHeartbeats 1600000 in
theorem rsnew_bad (v : Value) (k m : Int) (w : World) (h : BadK k m) :
    Calls Try.prog 11 #[v, .int .i64 k, .int .i64 m] w fun e w' => e = .returned (.tuple #[.pointer none, .int .i64 60]) ∧ w = w' := by
  rcases h with h | ⟨h1, h2⟩ | ⟨h1, h2, h3⟩ | ⟨h1, h2, h3, h4⟩
  · go_enter Try.func11, Try.ntmps11
    go_wp2
    go_ret2
    exact ⟨rfl, rfl⟩
  · go_enter Try.func11, Try.ntmps11
    go_wp2
    go_ret2
    exact ⟨rfl, rfl⟩
  · go_enter Try.func11, Try.ntmps11
    go_wp2
    go_ret2
    exact ⟨rfl, rfl⟩
  · go_enter Try.func11, Try.ntmps11
    go_wp2
    all_goals
      go_ret2
      exact ⟨rfl, rfl⟩
set_option maxRecDepth 100000 in
set_option maxHeartbeats 1600000 in
theorem rows_any (t g gr k m : Nat) (R : List (List Nat)) (w : World) (s : Cod w t g gr k m R) (h1 : 1 ≤ k) (hkm : k + m ≤ 255) :
    Calls Try.prog 18 #[.pointer (some ⟨g, 0, none⟩)] w fun e w' => ∃ h cap rest, e = .returned (mv h (k + m) k cap) ∧ Blk w' h (cellsM R rest) 5 ∧ Kept [] w w' := by
  have hz := zeroMx
  have hpb := mul_le (show k + m ≤ 255 by omega) (show k ≤ 255 by omega)
  have S0 := hx (s.kept ((Kept.refl [] w).alloc (.cells #[.int .i64 0, .int .i64 0, .slice none 0 0] 41)))
  have B0 := hx (Blk.new w [.int .i64 0, .int .i64 0, .slice none 0 0] 41)
  have K0 := hx ((Kept.refl [] w).alloc (.cells #[.int .i64 0, .int .i64 0, .slice none 0 0] 41))
  have HC := hx (fun w9 (s9 : Cod w9 t g gr k m R) => clone_any gr (k + m) k ((k + m) * k) R [] w9 s9.r s9.mt hkm (by omega) (by omega) h1 (Nat.le_refl _) (by unfold maxLen; omega))
  unfold mv at *
  clear s hkm hpb
  go_enter Try.func18, Try.ntmps18
  go_upto_region 1 with fail
  generalize w.alloc (.cells #[.int .i64 0, .int .i64 0, .slice none 0 0] 41) = W at *
  have c3 := S0.out.c.cell (i := 3) rfl
  have c4 := S0.out.c.cell (i := 4) rfl
  have c5 := S0.out.c.cell (i := 5) rfl
  have HC1 := hx (HC.out W S0.out)
  generalize hN : k + m = N at *
  have HNE := hx hN
  clear hN
  have f1 := B0.out.free
  go_wp2_with fail
  refine HC1.out.mono ?_
  rintro e w2 ⟨h, cap, rest, rfl, _, _, _, hb, hk⟩
  have B2 := hk.blk B0.out (by simp)
  have f2 := B2.free
  have d0 := B2.cell (i := 0) rfl
  have d1 := B2.cell (i := 1) rfl
  have d2 := B2.cell (i := 2) rfl
  have HR := hx (show Blk (((w2.setCell ⟨w.heap.size, 0, none⟩ (.int .i64 (N : Int))).setCell ⟨w.heap.size, 1, none⟩ (.int .i64 (k : Int))).setCell ⟨w.heap.size, 2, none⟩ (.slice (some ⟨h, 0, none⟩) (N * k) cap)) w.heap.size [.int .i64 (N : Int), .int .i64 (k : Int), .slice (some ⟨h, 0, none⟩) (N * k) cap] 41 from ((B2.set 0 _).set 1 _).set 2 _)
  have hne : h ≠ w.heap.size := fun e => by
    rw [e] at hb
    exact absurd (hb.ty B2) (by decide)
  have HB := hx (show Blk (((w2.setCell ⟨w.heap.size, 0, none⟩ (.int .i64 (N : Int))).setCell ⟨w.heap.size, 1, none⟩ (.int .i64 (k : Int))).setCell ⟨w.heap.size, 2, none⟩ (.slice (some ⟨h, 0, none⟩) (N * k) cap)) h (cellsM R rest) 5 from ((hb.set_ne (a := ⟨w.heap.size, 0, none⟩) hne _).set_ne (a := ⟨w.heap.size, 1, none⟩) hne _).set_ne (a := ⟨w.heap.size, 2, none⟩) hne _)
  have HK := hx (show Kept [] w (((w2.setCell ⟨w.heap.size, 0, none⟩ (.int .i64 (N : Int))).setCell ⟨w.heap.size, 1, none⟩ (.int .i64 (k : Int))).setCell ⟨w.heap.size, 2, none⟩ (.slice (some ⟨h, 0, none⟩) (N * k) cap)) from ((((K0.out.trans0 hk).setCell (p := ⟨w.heap.size, 0, none⟩) (.inr (Nat.le_refl _)) _).setCell (p := ⟨w.heap.size, 1, none⟩) (.inr (Nat.le_refl _)) _).setCell (p := ⟨w.heap.size, 2, none⟩) (.inr (Nat.le_refl _)) _))
  clear hb hk B2 hne HC HC1
  go_wp2_with fail
  refine bodyPost_ret (ret_blk rfl _ w.heap.size _ _ _ rfl HR.out Try.underlying41 rfl infoMx) rfl ?_
  obtain rfl := HNE.out
  exact ⟨h, cap, rest, rfl, HB.out, HK.out⟩
end Go.Proofs.Ytjgnngnknhkpmaa
