/- The program's matrices: swap, the walk. -/
import Derived.Test.YtjgnngnknhkpmaaMatI
namespace Go.Proofs.Ytjgnngnknhkpmaa
open Go Go.RowKit
set_option maxRecDepth 100000 in
set_option maxHeartbeats 4000000 in
theorem swap_any (b r c cap i k : Nat) (m : List (List Nat)) (rest : List Value) (w : World) (hb : Blk w b (cellsM m rest) 5) (hm : Mt r c m) (hr : r ≤ 255) (hc : c ≤ 255) (hc0 : 1 ≤ c) (hi : i < r) (hk : k < r) (hcap : r * c ≤ cap) :
    Calls Try.prog 49 #[mv b r c cap, .int .i64 i, .int .i64 k] w fun e w' => e = .returned (.tuple #[]) ∧ Blk w' b (cellsM (swapM m i k) rest) 5 ∧ Kept [b] w w' := by
  have hi1 : (i : Int) < (r : Int) := by omega
  have hk1 : (k : Int) < (r : Int) := by omega
  have hr1 : (r : Int) ≤ 255 := by omega
  have HW := hx (fun i w hi => row_any b r c cap i w hr hc hc0 hi hcap)
  have HB := hx hb
  have B0 := hx (Blk.new w [.int .i64 (r : Int), .int .i64 (c : Int), .slice (some ⟨b, 0, none⟩) (r * c) cap] 41)
  have K0 := hx ((Kept.refl [b] w).alloc (.cells #[.int .i64 (r : Int), .int .i64 (c : Int), .slice (some ⟨b, 0, none⟩) (r * c) cap] 41))
  have HB1 := hx (hb.alloc (.cells #[.int .i64 (r : Int), .int .i64 (c : Int), .slice (some ⟨b, 0, none⟩) (r * c) cap] 41))
  by_cases hne : i = k
  · subst hne
    have hs : swapM m i i = m := by unfold swapM; rw [if_pos rfl]
    rw [hs]
    unfold mv at *
    clear hb hm hcap
    go_enter Try.func49, Try.ntmps49
    go_wp2
    refine bodyPost_ret (results_none rfl _ _ _) rfl ?_
    exact ⟨rfl, HB1.out, K0.out⟩
  · have HM0 := hx (swS_0 hm hi hk)
    have HMA := hx (swS_all hm hi hk hne)
    have HMS := hx (fun n => swS_mt hm hi hk n)
    have HMI := hx (fun n => swS_i hm hi hk hne n)
    have HMK := hx (fun n => swS_k (i := i) hm hk n)
    have HST := hx (fun n (hn : n < c) => swS_step hm rest hi hk hne hn)
    have hbne : ((i : Int) == (k : Int)) = false := beq_eq_false_iff_ne.2 (by omega)
    have hrd : ∀ n, (rw m i).getD n 0 < 256 ∧ (rw m k).getD n 0 < 256 := fun n => ⟨(hm.rowOct hi).at n, (hm.rowOct hk).at n⟩
    have HRD := hx hrd
    have HIK := hx (And.intro hi (And.intro hk hne))
    unfold mv at *
    clear hb hm hcap hrd hne
    go_enter Try.func49, Try.ntmps49
    go_upto_region 2 with fail
    generalize w.alloc (.cells #[.int .i64 (r : Int), .int .i64 (c : Int), .slice (some ⟨b, 0, none⟩) (r * c) cap] 41) = W at *
    have c0 := B0.out.cell (i := 0) rfl
    have c1 := B0.out.cell (i := 1) rfl
    have c2 := B0.out.cell (i := 2) rfl
    have hkd : Kept [] W W.drew := (Kept.refl [] W).drew
    have HRI := hx (fun w9 (_ : Kept [] W w9) => HW.out i w9 hi)
    have HRK := hx (fun w9 (_ : Kept [] W w9) => HW.out k w9 hk)
    have flag : True := trivial
    go_region_with (first | (have flag2 := flag; clear flag flag2; go_at_call 46; refine (HRI.out _ (by assumption)).mono ?_; rintro e w9 ⟨rfl, hk9⟩; have hkk9 : Kept [] W w9 := Kept.trans0 (by assumption) hk9; have d0 := kept_cell hkk9 c0; have d1 := kept_cell hkk9 c1; have d2 := kept_cell hkk9 c2; clear hk9) | (go_at_call 46; refine (HRK.out _ (by assumption)).mono ?_; rintro e w9 ⟨rfl, hk9⟩; have hkk9 : Kept [] W w9 := Kept.trans0 (by assumption) hk9; clear hk9))
    all_goals
      have HB9 := hx (show Blk w9 b (cellsM (swS c m i k 0) rest) 5 by rw [HM0.out]; exact hkk9.blk HB1.out (by simp))
      have HK9 := hx (show Kept [b] w w9 from K0.out.trans hkk9 (fun _ h => h) (fun x hx => by simp at hx))
      have HCI := hx (fun wr n (hb : Blk wr b (cellsM (swS c m i k n) rest) 5) (hlt : n < c) => show wr.cell? ⟨b, i * c + n, none⟩ = some (.int .u8 (((rw m i).getD n 0 : Nat) : Int)) ∧ wr.cell? ⟨b, k * c + n, none⟩ = some (.int .u8 (((rw m k).getD n 0 : Nat) : Int)) by
        have h1 := row_cells hb (HMS.out n) HIK.out.1 n hlt
        have h2 := row_cells hb (HMS.out n) HIK.out.2.1 n hlt
        rw [HMI.out, swp_at hlt] at h1
        rw [HMK.out, swp_at hlt] at h2
        exact ⟨h1, h2⟩)
      have hqq : i * c ≠ k * c := fun h => HIK.out.2.2 (Nat.eq_of_mul_eq_mul_right (by omega) h)
      clear hkk9 c0 c1 c2 d0 d1 d2 HB HRI HRK HW
      generalize i * c = qi at *
      generalize k * c = qk at *
      have hq1 : ¬ qi = qk := hqq
      have hq2 : ¬ qk = qi := Ne.symm hqq
      clear hqq
      go_wp2_with fail
      go_loopw [20] (fun nv wr => ∃ n : Nat, n ≤ c ∧ nv = .int .i64 n ∧ Blk wr b (cellsM (swS c m i k n) rest) 5 ∧ Kept [b] w wr) (fun nv _ => c - (intOf nv).toNat)
      case atStart => exact ⟨0, by omega, rfl, HB9.out, HK9.out⟩
      case round =>
        obtain ⟨n, hn, rfl, hb, hk⟩ := hrel
        have HBN := hx hb
        have HKN := hx hk
        clear hb hk
        by_cases hlt : n < c
        · have hj : (n : Int) < (c : Int) := by omega
          obtain ⟨ci, ck⟩ := HCI.out wr n HBN.out hlt
          have HS := hx (HST.out n hlt)
          have f := HBN.out.free
          generalize (rw m i).getD n 0 = x at *
          generalize (rw m k).getD n 0 = y at *
          go_upto_region 6 with fail
          go_region
          have HB2 := hx (show Blk ((wr.setCell ⟨b, qi + n, none⟩ (.int .u8 (y : Int))).setCell ⟨b, qk + n, none⟩ (.int .u8 (x : Int))).drew b (cellsM (swS c m i k (n + 1)) rest) 5 by rw [← HS.out]; exact ((HBN.out.set (qi + n) _).set (qk + n) _).drew)
          have HK2 := hx (show Kept [b] w ((wr.setCell ⟨b, qi + n, none⟩ (.int .u8 (y : Int))).setCell ⟨b, qk + n, none⟩ (.int .u8 (x : Int))).drew from ((HKN.out.setCell (p := ⟨b, qi + n, none⟩) (.inl (by simp)) _).setCell (p := ⟨b, qk + n, none⟩) (.inl (by simp)) _).drew)
          clear HBN HKN ci ck HS f
          go_wp2_with fail
          go_roundw
          case rel => exact ⟨n + 1, by omega, by go_num, HB2.out, HK2.out⟩
          case measure => simp [intOf] <;> omega
        · obtain rfl : n = c := by omega
          go_wp2_with fail
          go_end0
          refine ⟨rfl, ?_, HKN.out⟩
          rw [← HMA.out]
          exact HBN.out
end Go.Proofs.Ytjgnngnknhkpmaa
