import Derived.Test.YtcjakhlalmlklaaCrcS
namespace Go.Proofs.Ytcjakhlalmlklaa
open Go.RowKit
set_option maxRecDepth 100000 in
set_option maxHeartbeats 800000 in
theorem square_any (f : Nat → Nat) (w : World) (hf : ∀ i, i < 32 → f i < 4294967296) :
    Calls Try.prog 27 #[.agg (matv f)] w fun e w' => e = .returned (.agg (matv fun i => mapp f 32 (f i))) ∧ Kept [] w w' := by
  have hz := zero32
  have hf' := Lib.hid hf
  clear hf
  go_enter Try.func27, Try.ntmps27
  have hb0 : Blk (w.alloc (.cells (matv f) 42)) w.heap.size (mat f) 42 := Blk.new w (mat f) _
  go_wp2_with (refine load_mat rfl (.tmp 1) rfl w.heap.size rfl f ((hb0.alloc _).alloc _) ?_)
  go_wp2
  have hi := index_mat f
  have hI := Lib.hid hi
  clear hi
  go_loopw [7] (fun v wr => ∃ j : Nat, j ≤ 32 ∧ v = .int .i64 j ∧ Blk wr w.heap.size (mat f) 42 ∧ Blk wr (w.heap.size + 1) (mat fun _ => 0) 42 ∧ Blk wr (w.heap.size + 1 + 1) (mat fun i => if i < j then mapp f 32 (f i) else 0) 42 ∧ Kept [] w wr) (fun v _ => 32 - (intOf v).toNat)
  case atStart =>
    refine ⟨0, by omega, rfl, (hb0.alloc _).alloc _, ?_, ?_, (((Kept.refl _ _).alloc _).alloc _).alloc _⟩
    · have h := Blk.new (w.alloc (.cells (matv f) 42)) (mat fun _ => 0) 42
      rw [World.size_alloc] at h
      exact h.alloc _
    · have h := Blk.new ((w.alloc (.cells (matv f) 42)).alloc (.cells (matv fun _ => 0) 42)) (mat fun _ => 0) 42
      rw [World.size_alloc, World.size_alloc] at h
      exact h
  case round =>
    obtain ⟨j, hj, rfl, hb1, hb2, hb3, hkr⟩ := hrel
    clear hz
    by_cases hlt : j < 32
    · have hij := hI.out j hlt
      have hfj := hf'.out j hlt
      go_wp2_with (refine load_mat rfl (.tmp 1) rfl w.heap.size rfl f hb1 ?_)
      refine (times_any f (f j) _ hf'.out hfj).mono ?_
      rintro e w2 ⟨rfl, hk2⟩
      have hb4 := hk2.blk hb3 (by simp)
      have hcell := hb4.cell (mat_get _ hlt)
      have hfree := hb4.free j
      go_wp2
      go_roundw
      case rel => exact ⟨j + 1, by omega, by go_num, (hk2.blk hb1 (by simp)).set_ne (by simp; omega) _, (hk2.blk hb2 (by simp)).set_ne (by simp) _, by rw [← mat_step (fun i => mapp f 32 (f i)) _ hlt]; exact hb4.set j _, (hkr.trans0 hk2).setCell (p := ⟨_, _, none⟩) (.inr (by simp; omega)) _⟩
      case measure => simp [intOf] <;> omega
    · obtain rfl : j = 32 := by omega
      rw [mat_full] at hb3
      go_wp2_with (first | (refine load_mat rfl (.tmp 3) rfl (w.heap.size + 1 + 1) rfl _ hb3 ?_) | (refine store_mat rfl (.tmp 2) (.tmp 17) rfl (w.heap.size + 1) rfl _ _ rfl hb2 ?_))
      intro w2 hb4 hk2
      go_wp2
      refine bodyPost_ret (v := .agg (matv _)) (results_cell_row rfl _ _ (w.heap.size + 1) 42 (matv _) (0, 0) _ rfl hb4 Try.underlying42 rfl (by rw [matv_size]; exact info32)) rfl ⟨rfl, hkr.trans hk2 (fun _ h => h) (fun x h => by simp at h; right; omega)⟩
end Go.Proofs.Ytcjakhlalmlklaa
