import Derived.Test.YtimplkdmhndalaaWide
namespace Go.Proofs.Ytimplkdmhndalaa
open Go Go.RowKit
/-- The carry into place k. -/
def car (a b k : Nat) : Nat := (a % 65536 ^ k + b % 65536 ^ k) / 65536 ^ k
theorem pw_pos (k : Nat) : 0 < 65536 ^ k := Nat.pow_pos (by omega)
theorem mod_next (a k : Nat) : a % 65536 ^ (k + 1) = a % 65536 ^ k + 65536 ^ k * dig a k := by rw [Nat.pow_succ, Nat.mod_mul]; rfl
theorem car_0 (a b : Nat) : car a b 0 = 0 := by simp [car, Nat.mod_one]
theorem car_lt (a b k : Nat) : car a b k < 2 := by
  unfold car
  have h1 := Nat.mod_lt a (pw_pos k)
  have h2 := Nat.mod_lt b (pw_pos k)
  rw [Nat.div_lt_iff_lt_mul (pw_pos k)]
  omega
theorem car_next (a b k : Nat) : car a b (k + 1) = (dig a k + dig b k + car a b k) / 65536 := by
  unfold car
  rw [mod_next, mod_next, Nat.pow_succ, ← Nat.div_div_eq_div_mul]
  congr 1
  rw [show a % 65536 ^ k + 65536 ^ k * dig a k + (b % 65536 ^ k + 65536 ^ k * dig b k) = (a % 65536 ^ k + b % 65536 ^ k) + 65536 ^ k * (dig a k + dig b k) by rw [Nat.mul_add]; omega, Nat.add_mul_div_left _ _ (pw_pos k)]
  omega
theorem dig_add (a b k : Nat) : dig (a + b) k = (dig a k + dig b k + car a b k) % 65536 := by
  have e : (a + b) / 65536 ^ k = a / 65536 ^ k + b / 65536 ^ k + car a b k := by
    unfold car
    have h1 := Nat.div_add_mod a (65536 ^ k)
    have h2 := Nat.div_add_mod b (65536 ^ k)
    rw [show a + b = (a % 65536 ^ k + b % 65536 ^ k) + 65536 ^ k * (a / 65536 ^ k + b / 65536 ^ k) by rw [Nat.mul_add]; omega, Nat.add_mul_div_left _ _ (pw_pos k)]
    exact Nat.add_comm _ _
  unfold dig
  rw [e]
  omega
/-- What is taken at place k. -/
def bor (a b k : Nat) : Nat := if a % 65536 ^ k < b % 65536 ^ k then 1 else 0
theorem bor_0 (a b : Nat) : bor a b 0 = 0 := by simp [bor, Nat.mod_one]
theorem bor_lt (a b k : Nat) : bor a b k < 2 := by unfold bor; split <;> omega
theorem bor_next (a b k : Nat) : bor a b (k + 1) = 1 - (dig a k + 65536 - dig b k - bor a b k) / 65536 := by
  unfold bor
  rw [mod_next, mod_next]
  have h1 := Nat.mod_lt a (pw_pos k)
  have h2 := Nat.mod_lt b (pw_pos k)
  have h3 := dig_lt a k
  have h4 := dig_lt b k
  generalize dig a k = x at *
  generalize dig b k = y at *
  generalize a % 65536 ^ k = r at *
  generalize b % 65536 ^ k = s at *
  generalize 65536 ^ k = m at *
  rcases Nat.lt_trichotomy x y with h | h | h
  · have : m * x + m ≤ m * y := by rw [← Nat.mul_succ]; exact Nat.mul_le_mul_left _ h
    rw [if_pos (by omega)]
    split <;> omega
  · subst h
    split <;> split <;> omega
  · have : m * y + m ≤ m * x := by rw [← Nat.mul_succ]; exact Nat.mul_le_mul_left _ h
    rw [if_neg (by omega)]
    split <;> omega
theorem dig_sub (a b k : Nat) (h : b ≤ a) : dig (a - b) k = (dig a k + 65536 - dig b k - bor a b k) % 65536 := by
  have e : (a - b) / 65536 ^ k + b / 65536 ^ k + bor a b k = a / 65536 ^ k := by
    unfold bor
    have h1 := Nat.div_add_mod a (65536 ^ k)
    have h2 := Nat.div_add_mod b (65536 ^ k)
    have h3 := Nat.mod_lt a (pw_pos k)
    have h4 := Nat.mod_lt b (pw_pos k)
    have hp := pw_pos k
    generalize a % 65536 ^ k = r at *
    generalize b % 65536 ^ k = s at *
    generalize a / 65536 ^ k = x at *
    generalize b / 65536 ^ k = y at *
    generalize 65536 ^ k = m at *
    split
    · rename_i hlt
      have hxy : y + 1 ≤ x := by
        rcases Nat.lt_or_ge y x with g | g
        · exact g
        · have := Nat.mul_le_mul_left m g
          omega
      obtain ⟨d, rfl⟩ : ∃ d, x = y + 1 + d := ⟨x - (y + 1), by omega⟩
      have e2 : a - b = (m + r - s) + m * d := by
        have e3 : m * (y + 1 + d) = m * y + m + m * d := by rw [Nat.mul_add, Nat.mul_add, Nat.mul_one]
        omega
      rw [e2, Nat.add_mul_div_left _ _ hp, Nat.div_eq_of_lt (by omega)]
      omega
    · rename_i hlt
      have hxy : y ≤ x := by
        rcases Nat.lt_or_ge x y with g | g
        · have : m * x + m ≤ m * y := by rw [← Nat.mul_succ]; exact Nat.mul_le_mul_left _ g
          omega
        · exact g
      obtain ⟨d, rfl⟩ : ∃ d, x = y + d := ⟨x - y, by omega⟩
      have e2 : a - b = (r - s) + m * d := by
        have e3 : m * (y + d) = m * y + m * d := Nat.mul_add _ _ _
        omega
      rw [e2, Nat.add_mul_div_left _ _ hp, Nat.div_eq_of_lt (by omega)]
      omega
  have hb := bor_lt a b k
  unfold dig
  generalize bor a b k = t at *
  omega
theorem lt_div {a b m : Nat} (h : a / m < b / m) : a < b := by
  rcases Nat.lt_or_ge a b with g | g
  · exact g
  · have := Nat.div_le_div_right (c := m) g
    omega
set_option maxRecDepth 100000 in
set_option maxHeartbeats 800000 in
theorem plus_any (na nb : Bool) (A B : Nat) (w : World) :
    Calls Try.prog 49 #[.agg (wide na A).toArray, .agg (wide nb B).toArray] w fun e w' => e = .returned (.agg (wide na (A + B)).toArray) ∧ Kept [] w w' := by
  have hz := zeroW
  have hb0 := Blk.new w (wide na A) 83
  have hb1 := Blk.new (w.alloc (.cells (wide na A).toArray 83)) (wide nb B) 83
  have hb2 := Blk.new ((w.alloc (.cells (wide na A).toArray 83)).alloc (.cells (wide nb B).toArray 83)) (wideF false fun _ => 0) 83
  rw [World.size_alloc] at hb1
  rw [World.size_alloc, World.size_alloc] at hb2
  go_enter Try.func49, Try.ntmps49
  go_wp2
  go_loopw [5, 6] (fun c i wr => ∃ k : Nat, k ≤ 9 ∧ i = .int .i64 k ∧ c = .int .u64 ((car A B k : Nat) : Int) ∧ Blk wr w.heap.size (wideF na fun j => if j < k then dig (A + B) j else dig A j) 83 ∧ Blk wr (w.heap.size + 1) (wide nb B) 83 ∧ Blk wr (w.heap.size + 1 + 1) (wideF false fun _ => 0) 83 ∧ Kept [] w wr) (fun _ i _ => 9 - (intOf i).toNat)
  case atStart => exact ⟨0, by omega, rfl, by rw [car_0]; rfl, (hb0.alloc _).alloc _, hb1.alloc _, hb2, (((Kept.refl _ _).alloc _).alloc _).alloc _⟩
  case round =>
    obtain ⟨k, hk9, rfl, rfl, h0, h1, h2, hkr⟩ := hrel
    clear hz hb0 hb1 hb2
    by_cases hlt : k < 9
    · have c0 := h0.cell (wideF_get na _ hlt)
      rw [if_neg (Nat.lt_irrefl k)] at c0
      have c1 : wr.cell? ⟨w.heap.size + 1, 1 + k, none⟩ = some (.int .u64 (dig B k : Nat)) := h1.cell (wideF_get nb (dig B) hlt)
      have f0 := h0.free (1 + k)
      have hx := dig_lt A k
      have hy := dig_lt B k
      have hc := car_lt A B k
      have hcn := Lib.hid (car_next A B k)
      have hdn := Lib.hid (dig_add A B k)
      generalize dig A k = x at *
      generalize dig B k = y at *
      generalize car A B k = c at *
      have b0 : (0 : Int) ≤ (k : Int) := by omega
      have b1 : (k : Int) < 9 := by omega
      have s1 : IntKind.u64.wrap ((x : Int) + (y : Int)) = (x : Int) + (y : Int) := by rw [IntKind.wrap_u64]; omega
      have s2 : IntKind.u64.wrap ((x : Int) + (y : Int) + (c : Int)) = (x : Int) + (y : Int) + (c : Int) := by rw [IntKind.wrap_u64]; omega
      go_wp2
      go_quiet (fail)
      clear s1 s2
      go_wp2
      go_roundw
      case rel =>
        refine ⟨k + 1, by omega, by go_num, by rw [hcn.out]; simp, ?_, h1.set_ne (by simp) _, h2.set_ne (by simp; omega) _, (hkr.drewN _).setCell (p := ⟨_, _, none⟩) (.inr (by simp)) _⟩
        have h := (h0.drewN nq).set (1 + k) (.int .u64 (((x + y + c) % 65536 : Nat) : Int))
        rw [wideF_set na _ (fun j => if j < k + 1 then dig (A + B) j else dig A j) hlt (by rw [if_pos (by omega), hdn.out]) (fun j hj hne => by
          by_cases h5 : j < k
          · rw [if_pos h5, if_pos (by omega)]
          · rw [if_neg h5, if_neg (by omega)])] at h
        simpa using h
      case measure => simp [intOf] <;> omega
    · obtain rfl : k = 9 := by omega
      have h0' : Blk wr w.heap.size (wide na (A + B)) 83 := by
        have e : wideF na (fun j => if j < 9 then dig (A + B) j else dig A j) = wide na (A + B) := wideF_ext na fun j hj => by rw [if_pos hj]
        rw [← e]; exact h0
      clear h0
      go_wp2_with (first | (refine load_w rfl (.tmp 2) rfl w.heap.size rfl na (dig (A + B)) h0' ?_) | (refine store_w rfl (.tmp 4) (.tmp 30) rfl (w.heap.size + 1 + 1) rfl _ _ _ _ rfl h2 ?_))
      intro w2 hb3 hk
      go_wp2
      exact bodyPost_ret (ret_w rfl _ (w.heap.size + 1 + 1) _ _ rfl hb3) rfl ⟨rfl, hkr.trans hk (fun _ h => h) (fun x h => by simp at h; right; omega)⟩
set_option maxRecDepth 100000 in
set_option maxHeartbeats 800000 in
theorem minus_any (na nb : Bool) (A B : Nat) (hAB : B ≤ A) (w : World) :
    Calls Try.prog 51 #[.agg (wide na A).toArray, .agg (wide nb B).toArray] w fun e w' => e = .returned (.agg (wide na (A - B)).toArray) ∧ Kept [] w w' := by
  have hz := zeroW
  have hb0 := Blk.new w (wide na A) 83
  have hb1 := Blk.new (w.alloc (.cells (wide na A).toArray 83)) (wide nb B) 83
  have hb2 := Blk.new ((w.alloc (.cells (wide na A).toArray 83)).alloc (.cells (wide nb B).toArray 83)) (wideF false fun _ => 0) 83
  rw [World.size_alloc] at hb1
  rw [World.size_alloc, World.size_alloc] at hb2
  go_enter Try.func51, Try.ntmps51
  go_wp2
  go_loopw [5, 6] (fun c i wr => ∃ k : Nat, k ≤ 9 ∧ i = .int .i64 k ∧ c = .int .u64 ((bor A B k : Nat) : Int) ∧ Blk wr w.heap.size (wideF na fun j => if j < k then dig (A - B) j else dig A j) 83 ∧ Blk wr (w.heap.size + 1) (wide nb B) 83 ∧ Blk wr (w.heap.size + 1 + 1) (wideF false fun _ => 0) 83 ∧ Kept [] w wr) (fun _ i _ => 9 - (intOf i).toNat)
  case atStart => exact ⟨0, by omega, rfl, by rw [bor_0]; rfl, (hb0.alloc _).alloc _, hb1.alloc _, hb2, (((Kept.refl _ _).alloc _).alloc _).alloc _⟩
  case round =>
    obtain ⟨k, hk9, rfl, rfl, h0, h1, h2, hkr⟩ := hrel
    clear hz hb0 hb1 hb2
    by_cases hlt : k < 9
    · have c0 := h0.cell (wideF_get na _ hlt)
      rw [if_neg (Nat.lt_irrefl k)] at c0
      have c1 : wr.cell? ⟨w.heap.size + 1, 1 + k, none⟩ = some (.int .u64 (dig B k : Nat)) := h1.cell (wideF_get nb (dig B) hlt)
      have f0 := h0.free (1 + k)
      have hx := dig_lt A k
      have hy := dig_lt B k
      have hc := bor_lt A B k
      have hcn := Lib.hid (bor_next A B k)
      have hdn := Lib.hid (dig_sub A B k hAB)
      generalize dig A k = x at *
      generalize dig B k = y at *
      generalize bor A B k = c at *
      have b0 : (0 : Int) ≤ (k : Int) := by omega
      have b1 : (k : Int) < 9 := by omega
      have s1 : IntKind.u64.wrap ((x : Int) + 65536) = (x : Int) + 65536 := by rw [IntKind.wrap_u64]; omega
      have s2 : IntKind.u64.wrap ((x : Int) + 65536 - (y : Int)) = (x : Int) + 65536 - (y : Int) := by rw [IntKind.wrap_u64]; omega
      have s3 : IntKind.u64.wrap ((x : Int) + 65536 - (y : Int) - (c : Int)) = ((x + 65536 - y - c : Nat) : Int) := by rw [IntKind.wrap_u64]; omega
      have hs : x + 65536 - y - c < 131072 := by omega
      generalize x + 65536 - y - c = z at *
      go_wp2
      go_quiet (fail)
      clear s1 s2 s3
      go_wp2
      go_roundw
      case rel =>
        refine ⟨k + 1, by omega, by go_num, by rw [hcn.out]; congr 1; omega, ?_, h1.set_ne (by simp) _, h2.set_ne (by simp; omega) _, (hkr.drewN _).setCell (p := ⟨_, _, none⟩) (.inr (by simp)) _⟩
        have h := (h0.drewN nq).set (1 + k) (.int .u64 ((z % 65536 : Nat) : Int))
        rw [wideF_set na _ (fun j => if j < k + 1 then dig (A - B) j else dig A j) hlt (by rw [if_pos (by omega), hdn.out]) (fun j hj hne => by
          by_cases h5 : j < k
          · rw [if_pos h5, if_pos (by omega)]
          · rw [if_neg h5, if_neg (by omega)])] at h
        simpa using h
      case measure => simp [intOf] <;> omega
    · obtain rfl : k = 9 := by omega
      have h0' : Blk wr w.heap.size (wide na (A - B)) 83 := by
        have e : wideF na (fun j => if j < 9 then dig (A - B) j else dig A j) = wide na (A - B) := wideF_ext na fun j hj => by rw [if_pos hj]
        rw [← e]; exact h0
      clear h0
      go_wp2_with (first | (refine load_w rfl (.tmp 2) rfl w.heap.size rfl na (dig (A - B)) h0' ?_) | (refine store_w rfl (.tmp 4) (.tmp 32) rfl (w.heap.size + 1 + 1) rfl _ _ _ _ rfl h2 ?_))
      intro w2 hb3 hk
      go_wp2
      exact bodyPost_ret (ret_w rfl _ (w.heap.size + 1 + 1) _ _ rfl hb3) rfl ⟨rfl, hkr.trans hk (fun _ h => h) (fun x h => by simp at h; right; omega)⟩
set_option maxRecDepth 100000 in
set_option maxHeartbeats 800000 in
theorem less_any (na nb : Bool) (A B : Nat) (hA : A < 65536 ^ 9) (hB : B < 65536 ^ 9) (w : World) :
    Calls Try.prog 50 #[.agg (wide na A).toArray, .agg (wide nb B).toArray] w fun e w' => e = .returned (.bool (decide (A < B))) ∧ Kept [] w w' := by
  have hb0 := Blk.new w (wide na A) 83
  have hb1 := Blk.new (w.alloc (.cells (wide na A).toArray 83)) (wide nb B) 83
  rw [World.size_alloc] at hb1
  have hA' := Lib.hid hA
  have hB' := Lib.hid hB
  clear hA hB
  go_enter Try.func50, Try.ntmps50
  go_wp2
  go_loopw [5] (fun i wr => ∃ k : Nat, k ≤ 9 ∧ i = .int .i64 ((k : Int) - 1) ∧ A / 65536 ^ k = B / 65536 ^ k ∧ Blk wr w.heap.size (wide na A) 83 ∧ Blk wr (w.heap.size + 1) (wide nb B) 83 ∧ Kept [] w wr) (fun i _ => (intOf i + 1).toNat)
  case atStart => exact ⟨9, by omega, rfl, by rw [Nat.div_eq_of_lt hA'.out, Nat.div_eq_of_lt hB'.out], hb0.alloc _, hb1, ((Kept.refl _ _).alloc _).alloc _⟩
  case round =>
    obtain ⟨m, hm, rfl, hq, h0, h1, hkr⟩ := hrel
    have hq' := Lib.hid hq
    clear hq hb0 hb1
    by_cases hm0 : m = 0
    · subst hm0
      have he := hq'.out
      rw [Nat.pow_zero, Nat.div_one, Nat.div_one] at he
      have hd := Lib.hid (show decide (A < B) = false by apply decide_eq_false; omega)
      clear he
      go_wp2
      go_ret
      exact ⟨by rw [hd.out]; rfl, hkr⟩
    · obtain ⟨k, rfl⟩ : ∃ k, m = k + 1 := ⟨m - 1, by omega⟩
      have e1 : ((k + 1 : Nat) : Int) - 1 = (k : Int) := by omega
      rw [e1]
      clear e1
      have hlt : k < 9 := by omega
      have c0 : wr.cell? ⟨w.heap.size, 1 + k, none⟩ = some (.int .u64 (dig A k : Nat)) := h0.cell (wideF_get na (dig A) hlt)
      have c1 : wr.cell? ⟨w.heap.size + 1, 1 + k, none⟩ = some (.int .u64 (dig B k : Nat)) := h1.cell (wideF_get nb (dig B) hlt)
      have hx := dig_lt A k
      have hy := dig_lt B k
      have hA1 : Hid (A / 65536 ^ k = A / 65536 ^ (k + 1) * 65536 + dig A k) := by have := div_next A k; unfold dig; show _ = _; omega
      have hB1 : Hid (B / 65536 ^ k = B / 65536 ^ (k + 1) * 65536 + dig B k) := by have := div_next B k; unfold dig; show _ = _; omega
      generalize dig A k = x at *
      generalize dig B k = y at *
      have b0 : (0 : Int) ≤ (k : Int) := by omega
      have b1 : (k : Int) < 9 := by omega
      by_cases hxy : x = y
      · subst hxy
        have hstep : Hid (A / 65536 ^ k = B / 65536 ^ k) := by show _ = _; rw [hA1.out, hB1.out, hq'.out]
        go_wp2
        go_quiet (fail)
        go_wp2
        go_roundw
        case rel => exact ⟨k, by omega, rfl, hstep.out, h0, h1, hkr.drewN _⟩
        case measure => simp [intOf] <;> omega
      · have hne : ((x : Int) != (y : Int)) = true := by rw [bne_iff_ne]; omega
        have hres : Hid (decide (A < B) = decide ((x : Int) < (y : Int))) := by
          show _ = _
          have g1 := hA1.out
          have g2 := hB1.out
          rw [hq'.out] at g1
          rcases Nat.lt_or_gt_of_ne hxy with h | h
          · have := lt_div (show A / 65536 ^ k < B / 65536 ^ k by omega)
            rw [decide_eq_true this, decide_eq_true (by omega)]
          · have := lt_div (show B / 65536 ^ k < A / 65536 ^ k by omega)
            rw [decide_eq_false (by omega), decide_eq_false (by omega)]
        have hxy' := Lib.hid hxy
        clear hxy
        go_wp2
        go_quiet (fail)
        go_wp2
        go_quiet (fail)
        go_wp2
        go_ret
        exact ⟨by rw [hres.out]; simp, (hkr.drewN _).drewN _⟩
end Go.Proofs.Ytimplkdmhndalaa
