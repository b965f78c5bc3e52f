/- Is a times b above c times d? -/
import Derived.Test.YtgbikakhnmjllaaWideU
import Derived.Test.YtgbikakhnmjllaaWideS
import Derived.Test.YtgbikakhnmjllaaWord
import Derived.Test.YtgbikakhnmjllaaStep
import Derived.Deep.DeepCutAuto
namespace Go.Proofs.Ytgbikakhnmjllaa
open Go Go.RowKit
theorem Part.all (xs : List Value) : Part xs 0 xs := ⟨by simp, fun k _ => by simp⟩
theorem dig0 (i : Nat) : dig 0 i = 0 := by simp [dig]
theorem digs_0 (n k : Nat) (h : ∀ j, j < k → dig n j = 0) : n % 65536 ^ k = 0 := by
  induction k with
  | zero => simp [Nat.mod_one]
  | succ k ih => rw [mod_next, ih (fun j hj => h j (by omega)), h k (by omega)]; simp
def abovN (a b c d : Int) : Nat := plusN (decide (a < 0) != decide (b < 0)) (a.natAbs * b.natAbs) (!(decide (c < 0) != decide (d < 0))) (c.natAbs * d.natAbs)
def abovB (a b c d : Int) : Bool := plusB (decide (a < 0) != decide (b < 0)) (a.natAbs * b.natAbs) (!(decide (c < 0) != decide (d < 0))) (c.natAbs * d.natAbs)
theorem wval_mul (a b : Int) : wval (decide (a < 0) != decide (b < 0)) (a.natAbs * b.natAbs) = a * b := by
  have ha := wval_of a
  have hb := wval_of b
  generalize a.natAbs = x at *
  generalize b.natAbs = y at *
  generalize decide (a < 0) = s at *
  generalize decide (b < 0) = t at *
  subst ha hb
  unfold wval
  cases s <;> cases t <;> simp [Int.neg_mul, Int.mul_neg]
theorem abov_val (a b c d : Int) : wval (abovB a b c d) (abovN a b c d) = a * b - c * d := by
  unfold abovB abovN
  rw [plus_val, wval_not, wval_mul, wval_mul]
  omega
theorem abov_0 (a b c d : Int) (h : abovN a b c d = 0) : decide (c * d < a * b) = false := by
  have e := abov_val a b c d
  rw [h] at e
  simp only [decide_eq_false_iff_not]
  unfold wval at e
  split at e <;> omega
theorem abov_1 (a b c d : Int) (h : abovN a b c d ≠ 0) : decide (c * d < a * b) = !(abovB a b c d) := by
  have e := abov_val a b c d
  unfold wval at e
  cases hb : abovB a b c d
  · rw [hb] at e
    simp only [Bool.not_false, decide_eq_true_eq]
    simp at e
    omega
  · rw [hb] at e
    simp only [Bool.not_true, decide_eq_false_iff_not]
    simp at e
    omega
theorem abs_lt (a : Int) (h : Fits a) : a.natAbs < 65536 ^ 4 := by
  have e : (65536 ^ 4 : Nat) = 18446744073709551616 := by decide
  rw [e]
  unfold Fits at h
  omega
theorem prod_lt (a b : Int) (ha : Fits a) (hb : Fits b) : a.natAbs * b.natAbs < 65536 ^ 9 := by
  have h1 := abs_lt a ha
  have h2 := abs_lt b hb
  calc a.natAbs * b.natAbs ≤ 65536 ^ 4 * 65536 ^ 4 := Nat.mul_le_mul (by omega) (by omega)
    _ < 65536 ^ 9 := by decide
theorem abovN_lt (a b c d : Int) (ha : Fits a) (hb : Fits b) (hc : Fits c) (hd : Fits d) : abovN a b c d < 65536 ^ 9 := by
  have h := plusN_le (decide (a < 0) != decide (b < 0)) (a.natAbs * b.natAbs) (!(decide (c < 0) != decide (d < 0))) (c.natAbs * d.natAbs)
  have h1 := abs_lt a ha
  have h2 := abs_lt b hb
  have h3 := abs_lt c hc
  have h4 := abs_lt d hd
  have p1 : a.natAbs * b.natAbs ≤ 65536 ^ 4 * 65536 ^ 4 := Nat.mul_le_mul (by omega) (by omega)
  have p2 : c.natAbs * d.natAbs ≤ 65536 ^ 4 * 65536 ^ 4 := Nat.mul_le_mul (by omega) (by omega)
  have p3 : 65536 ^ 4 * 65536 ^ 4 + 65536 ^ 4 * 65536 ^ 4 < 65536 ^ 9 := by decide
  unfold abovN
  omega
set_option maxRecDepth 100000 in
set_option maxHeartbeats 6400000 in
theorem above_any (a b c d : Int) (ha : Fits a) (hb : Fits b) (hc : Fits c) (hd : Fits d) (w : World) :
    Calls Try.prog 18 #[.int .i64 a, .int .i64 b, .int .i64 c, .int .i64 d] w fun e w' => e = .returned (.bool (decide (c * d < a * b))) ∧ Kept [] w w' := by
  have hz := zeroW
  have OA := hx (fun w => Of_any a w ha)
  have OB := hx (fun w => Of_any b w hb)
  have OC := hx (fun w => Of_any c w hc)
  have OD := hx (fun w => Of_any d w hd)
  have TX := hx (fun w => times_any (decide (a < 0)) (decide (b < 0)) a.natAbs b.natAbs (abs_lt a ha) (abs_lt b hb) w)
  have TY := hx (fun w => times_any (decide (c < 0)) (decide (d < 0)) c.natAbs d.natAbs (abs_lt c hc) (abs_lt d hd) w)
  have PZ := hx (fun w => Plus_any (decide (a < 0) != decide (b < 0)) (!(decide (c < 0) != decide (d < 0))) (a.natAbs * b.natAbs) (c.natAbs * d.natAbs) (prod_lt a b ha hb) (prod_lt c d hc hd) w)
  have HN := hx (abovN_lt a b c d ha hb hc hd)
  have E0 := hx (abov_0 a b c d)
  have E1 := hx (abov_1 a b c d)
  have EN : abovN a b c d = plusN (decide (a < 0) != decide (b < 0)) (a.natAbs * b.natAbs) (!(decide (c < 0) != decide (d < 0))) (c.natAbs * d.natAbs) := rfl
  have EB : abovB a b c d = plusB (decide (a < 0) != decide (b < 0)) (a.natAbs * b.natAbs) (!(decide (c < 0) != decide (d < 0))) (c.natAbs * d.natAbs) := rfl
  rw [← EN, ← EB] at PZ
  clear EN EB ha hb hc hd
  generalize decide (c * d < a * b) = R at *
  generalize abovN a b c d = N at *
  generalize abovB a b c d = M at *
  generalize decide (a < 0) = sa at *
  generalize decide (b < 0) = sb at *
  generalize decide (c < 0) = sc at *
  generalize decide (d < 0) = sd at *
  generalize a.natAbs = na at *
  generalize b.natAbs = nb at *
  generalize c.natAbs = nc at *
  generalize d.natAbs = nd at *
  go_enter Try.func18, Try.ntmps18
  go_wp2_with fail
  refine (OA.out _).mono ?_
  rintro e w1 ⟨rfl, hk1⟩
  go_wp2_with fail
  refine (OB.out _).mono ?_
  rintro e w2 ⟨rfl, hk2⟩
  go_wp2_with fail
  refine (TX.out _).mono ?_
  rintro e w3 ⟨rfl, hk3⟩
  have K3 := hx ((hk1.trans0 hk2).trans0 hk3)
  clear hk1 hk2 hk3 OA OB TX
  have hbx := hx (Blk.new w3 (wideF false fun _ => 0) 70)
  go_upto_region 2 with (first
    | (refine store_w rfl (.tmp 9) (.tmp 17) rfl w3.heap.size rfl _ _ _ _ rfl hbx.out ?_
       intro w4 hb4 hk4
       have HX := hx hb4
       have K4 := hx ((K3.out.alloc _).trans hk4 (fun _ h => h) (fun x h => by simp at h; right; have := K3.out.size; omega))
       clear hb4 hk4 K3 hbx))
  have HM := hx HX.out.lt
  generalize w3.heap.size = mx at *
  go_wp2_with fail
  refine (OC.out _).mono ?_
  rintro e w5 ⟨rfl, hk5⟩
  go_wp2_with fail
  refine (OD.out _).mono ?_
  rintro e w6 ⟨rfl, hk6⟩
  go_wp2_with fail
  refine (TY.out _).mono ?_
  rintro e w7 ⟨rfl, hk7⟩
  have K7 := hx (((K4.out.trans0 hk5).trans0 hk6).trans0 hk7)
  have hk57 := (hk5.trans0 hk6).trans0 hk7
  have HX7 := hx (hk57.blk HX.out (by simp))
  clear hk5 hk6 hk7 hk57 OC OD TY HX K4
  have hby := hx (Blk.new w7 (wideF false fun _ => 0) 70)
  have HX7' := hx (HX7.out.alloc (.cells (wideF false fun _ => 0).toArray 70))
  have HM7 := hx HX7.out.lt
  go_upto_region 3 with (first
    | (refine store_w rfl (.tmp 10) (.tmp 22) rfl w7.heap.size rfl _ _ _ _ rfl hby.out ?_
       intro w8 hb8 hk8
       have HY8 := hx hb8
       have HX8 := hx (hk8.blk HX7'.out (by have h := HM7.out; simp; omega))
       have K8 := hx ((K7.out.alloc _).trans hk8 (fun _ h => h) (fun x h => by simp at h; right; have := K7.out.size; omega))
       clear hb8 hk8 K7 hby HX7 HX7' HM7))
  generalize w7.heap.size = my at *
  have HZ0 := hx True.intro
  simp only [Act.put]
  go_cut [11] (fun s11 wx => ∃ g, s11 = .pointer (some ⟨g, 0, none⟩) ∧ Blk wx g (wide M N) 70 ∧ Kept [] w wx)
  case first =>
    refine wp_region_any (by kernel_rfl) ?_
    change wpAny _ _ _ _ _ _ _ (World.drew _)
    have HX8 := hx HX8.out.drew
    have HY8 := hx HY8.out.drew
    have K8 := hx K8.out.drew
    generalize World.drew _ = W at *
    refine wpAny_ready (rs := [0, 1, 4]) (by decide +kernel) (by simp) ?_
    refine AllReady.cons rfl (fun K hK => ?_) (AllReady.cons rfl (fun K hK => ?_) (AllReady.cons rfl (fun K hK => ?_) AllReady.nil))
    · refine step_load rfl 70 (.tmp 9) rfl mx 0 rfl 70 _ _ _ HX8.out (Part.all _) Try.underlying70 rfl (by rw [wideF_len]; exact infoW) ?_
      try go_simp
      refine hK _ _ ?_
      clear hK K
      refine wpAny_ready (rs := [1, 4]) (by decide +kernel) (by simp) ?_
      refine AllReady.cons rfl (fun K hK => ?_) (AllReady.cons rfl (fun K hK => ?_) AllReady.nil)
      · refine step_load rfl 70 (.tmp 10) rfl my 0 rfl 70 _ _ _ HY8.out (Part.all _) Try.underlying70 rfl (by rw [wideF_len]; exact infoW) ?_
        try go_simp
        refine hK _ _ ?_
        clear hK K
        refine wpAny_ready (rs := [2, 4]) (by decide +kernel) (by simp) ?_
        refine AllReady.cons rfl (fun K hK => ?_) (AllReady.cons rfl (fun K hK => ?_) AllReady.nil)
        · go_simp
          refine (turn_any _ _ _).mono ?_
          rintro e W ⟨rfl, hk⟩
          have HX8 := hx (hk.blk HX8.out (by simp))
          have HY8 := hx (hk.blk HY8.out (by simp))
          have K8 := hx (K8.out.trans0 hk)
          try have HZ8 := hx (hk.blk HZ8.out (by simp))
          clear hk
          try go_simp
          refine hK _ _ ?_
          clear hK K
          refine wpAny_ready (rs := [3, 4]) (by decide +kernel) (by simp) ?_
          refine AllReady.cons rfl (fun K hK => ?_) (AllReady.cons rfl (fun K hK => ?_) AllReady.nil)
          · go_simp
            refine (PZ.out _).mono ?_
            rintro e W ⟨rfl, hk⟩
            have HX8 := hx (hk.blk HX8.out (by simp))
            have HY8 := hx (hk.blk HY8.out (by simp))
            have K8 := hx (K8.out.trans0 hk)
            try have HZ8 := hx (hk.blk HZ8.out (by simp))
            clear hk
            try go_simp
            refine hK _ _ ?_
            clear hK K
            refine wpAny_ready (rs := [4]) (by decide +kernel) (by simp) ?_
            refine AllReady.cons rfl (fun K hK => ?_) AllReady.nil
            go_simp
            rename_i W
            have HZ8 := hx (Blk.new W (wideF false fun _ => 0) 70)
            have HX8 := hx (HX8.out.alloc (.cells (wideF false fun _ => 0).toArray 70))
            have HY8 := hx (HY8.out.alloc (.cells (wideF false fun _ => 0).toArray 70))
            have HZ9 := hx (show w.heap.size ≤ W.heap.size from K8.out.size)
            have K8 := hx (K8.out.alloc (.cells (wideF false fun _ => 0).toArray 70))
            generalize W.heap.size = g at *
            generalize W.alloc _ = W at *
            refine hK _ _ ?_
            clear hK K
            refine wpAny_ready (rs := [5]) (by decide +kernel) (by simp) ?_
            refine AllReady.cons rfl (fun K hK => ?_) AllReady.nil
            refine step_store rfl 70 (.tmp 11) (.tmp 26) rfl g 0 rfl 70 _ (wide M N) rfl HZ8.out (by rw [wide_len, wideF_len]; omega) (by rw [wide_len]; exact infoW) (wideF_one _ _) ?_
            intro W hbz hkz
            rw [setAll_all _ _ (by rw [wide_len, wideF_len])] at hbz
            try go_simp
            refine hK _ _ ?_
            clear hK K
            refine wpAny_done (by kernel_rfl) ?_ _
            go_wp2_with fail
            go_meet
            exact ⟨g, rfl, hbz, K8.out.trans hkz (fun _ h => h) (fun x h => by simp at h; subst h; exact .inr HZ9.out)⟩
          · go_simp
            rename_i W
            have HZ8 := hx (Blk.new W (wideF false fun _ => 0) 70)
            have HX8 := hx (HX8.out.alloc (.cells (wideF false fun _ => 0).toArray 70))
            have HY8 := hx (HY8.out.alloc (.cells (wideF false fun _ => 0).toArray 70))
            have HZ9 := hx (show w.heap.size ≤ W.heap.size from K8.out.size)
            have K8 := hx (K8.out.alloc (.cells (wideF false fun _ => 0).toArray 70))
            generalize W.heap.size = g at *
            generalize W.alloc _ = W at *
            refine hK _ _ ?_
            clear hK K
            refine wpAny_ready (rs := [3]) (by decide +kernel) (by simp) ?_
            refine AllReady.cons rfl (fun K hK => ?_) AllReady.nil
            go_simp
            refine (PZ.out _).mono ?_
            rintro e W ⟨rfl, hk⟩
            have HX8 := hx (hk.blk HX8.out (by simp))
            have HY8 := hx (hk.blk HY8.out (by simp))
            have K8 := hx (K8.out.trans0 hk)
            try have HZ8 := hx (hk.blk HZ8.out (by simp))
            clear hk
            try go_simp
            refine hK _ _ ?_
            clear hK K
            refine wpAny_ready (rs := [5]) (by decide +kernel) (by simp) ?_
            refine AllReady.cons rfl (fun K hK => ?_) AllReady.nil
            refine step_store rfl 70 (.tmp 11) (.tmp 26) rfl g 0 rfl 70 _ (wide M N) rfl HZ8.out (by rw [wide_len, wideF_len]; omega) (by rw [wide_len]; exact infoW) (wideF_one _ _) ?_
            intro W hbz hkz
            rw [setAll_all _ _ (by rw [wide_len, wideF_len])] at hbz
            try go_simp
            refine hK _ _ ?_
            clear hK K
            refine wpAny_done (by kernel_rfl) ?_ _
            go_wp2_with fail
            go_meet
            exact ⟨g, rfl, hbz, K8.out.trans hkz (fun _ h => h) (fun x h => by simp at h; subst h; exact .inr HZ9.out)⟩
        · go_simp
          rename_i W
          have HZ8 := hx (Blk.new W (wideF false fun _ => 0) 70)
          have HX8 := hx (HX8.out.alloc (.cells (wideF false fun _ => 0).toArray 70))
          have HY8 := hx (HY8.out.alloc (.cells (wideF false fun _ => 0).toArray 70))
          have HZ9 := hx (show w.heap.size ≤ W.heap.size from K8.out.size)
          have K8 := hx (K8.out.alloc (.cells (wideF false fun _ => 0).toArray 70))
          generalize W.heap.size = g at *
          generalize W.alloc _ = W at *
          refine hK _ _ ?_
          clear hK K
          refine wpAny_ready (rs := [2]) (by decide +kernel) (by simp) ?_
          refine AllReady.cons rfl (fun K hK => ?_) AllReady.nil
          go_simp
          refine (turn_any _ _ _).mono ?_
          rintro e W ⟨rfl, hk⟩
          have HX8 := hx (hk.blk HX8.out (by simp))
          have HY8 := hx (hk.blk HY8.out (by simp))
          have K8 := hx (K8.out.trans0 hk)
          try have HZ8 := hx (hk.blk HZ8.out (by simp))
          clear hk
          try go_simp
          refine hK _ _ ?_
          clear hK K
          refine wpAny_ready (rs := [3]) (by decide +kernel) (by simp) ?_
          refine AllReady.cons rfl (fun K hK => ?_) AllReady.nil
          go_simp
          refine (PZ.out _).mono ?_
          rintro e W ⟨rfl, hk⟩
          have HX8 := hx (hk.blk HX8.out (by simp))
          have HY8 := hx (hk.blk HY8.out (by simp))
          have K8 := hx (K8.out.trans0 hk)
          try have HZ8 := hx (hk.blk HZ8.out (by simp))
          clear hk
          try go_simp
          refine hK _ _ ?_
          clear hK K
          refine wpAny_ready (rs := [5]) (by decide +kernel) (by simp) ?_
          refine AllReady.cons rfl (fun K hK => ?_) AllReady.nil
          refine step_store rfl 70 (.tmp 11) (.tmp 26) rfl g 0 rfl 70 _ (wide M N) rfl HZ8.out (by rw [wide_len, wideF_len]; omega) (by rw [wide_len]; exact infoW) (wideF_one _ _) ?_
          intro W hbz hkz
          rw [setAll_all _ _ (by rw [wide_len, wideF_len])] at hbz
          try go_simp
          refine hK _ _ ?_
          clear hK K
          refine wpAny_done (by kernel_rfl) ?_ _
          go_wp2_with fail
          go_meet
          exact ⟨g, rfl, hbz, K8.out.trans hkz (fun _ h => h) (fun x h => by simp at h; subst h; exact .inr HZ9.out)⟩
      · go_simp
        rename_i W
        have HZ8 := hx (Blk.new W (wideF false fun _ => 0) 70)
        have HX8 := hx (HX8.out.alloc (.cells (wideF false fun _ => 0).toArray 70))
        have HY8 := hx (HY8.out.alloc (.cells (wideF false fun _ => 0).toArray 70))
        have HZ9 := hx (show w.heap.size ≤ W.heap.size from K8.out.size)
        have K8 := hx (K8.out.alloc (.cells (wideF false fun _ => 0).toArray 70))
        generalize W.heap.size = g at *
        generalize W.alloc _ = W at *
        refine hK _ _ ?_
        clear hK K
        refine wpAny_ready (rs := [1]) (by decide +kernel) (by simp) ?_
        refine AllReady.cons rfl (fun K hK => ?_) AllReady.nil
        refine step_load rfl 70 (.tmp 10) rfl my 0 rfl 70 _ _ _ HY8.out (Part.all _) Try.underlying70 rfl (by rw [wideF_len]; exact infoW) ?_
        try go_simp
        refine hK _ _ ?_
        clear hK K
        refine wpAny_ready (rs := [2]) (by decide +kernel) (by simp) ?_
        refine AllReady.cons rfl (fun K hK => ?_) AllReady.nil
        go_simp
        refine (turn_any _ _ _).mono ?_
        rintro e W ⟨rfl, hk⟩
        have HX8 := hx (hk.blk HX8.out (by simp))
        have HY8 := hx (hk.blk HY8.out (by simp))
        have K8 := hx (K8.out.trans0 hk)
        try have HZ8 := hx (hk.blk HZ8.out (by simp))
        clear hk
        try go_simp
        refine hK _ _ ?_
        clear hK K
        refine wpAny_ready (rs := [3]) (by decide +kernel) (by simp) ?_
        refine AllReady.cons rfl (fun K hK => ?_) AllReady.nil
        go_simp
        refine (PZ.out _).mono ?_
        rintro e W ⟨rfl, hk⟩
        have HX8 := hx (hk.blk HX8.out (by simp))
        have HY8 := hx (hk.blk HY8.out (by simp))
        have K8 := hx (K8.out.trans0 hk)
        try have HZ8 := hx (hk.blk HZ8.out (by simp))
        clear hk
        try go_simp
        refine hK _ _ ?_
        clear hK K
        refine wpAny_ready (rs := [5]) (by decide +kernel) (by simp) ?_
        refine AllReady.cons rfl (fun K hK => ?_) AllReady.nil
        refine step_store rfl 70 (.tmp 11) (.tmp 26) rfl g 0 rfl 70 _ (wide M N) rfl HZ8.out (by rw [wide_len, wideF_len]; omega) (by rw [wide_len]; exact infoW) (wideF_one _ _) ?_
        intro W hbz hkz
        rw [setAll_all _ _ (by rw [wide_len, wideF_len])] at hbz
        try go_simp
        refine hK _ _ ?_
        clear hK K
        refine wpAny_done (by kernel_rfl) ?_ _
        go_wp2_with fail
        go_meet
        exact ⟨g, rfl, hbz, K8.out.trans hkz (fun _ h => h) (fun x h => by simp at h; subst h; exact .inr HZ9.out)⟩
    · refine step_load rfl 70 (.tmp 10) rfl my 0 rfl 70 _ _ _ HY8.out (Part.all _) Try.underlying70 rfl (by rw [wideF_len]; exact infoW) ?_
      try go_simp
      refine hK _ _ ?_
      clear hK K
      refine wpAny_ready (rs := [0, 2, 4]) (by decide +kernel) (by simp) ?_
      refine AllReady.cons rfl (fun K hK => ?_) (AllReady.cons rfl (fun K hK => ?_) (AllReady.cons rfl (fun K hK => ?_) AllReady.nil))
      · refine step_load rfl 70 (.tmp 9) rfl mx 0 rfl 70 _ _ _ HX8.out (Part.all _) Try.underlying70 rfl (by rw [wideF_len]; exact infoW) ?_
        try go_simp
        refine hK _ _ ?_
        clear hK K
        refine wpAny_ready (rs := [2, 4]) (by decide +kernel) (by simp) ?_
        refine AllReady.cons rfl (fun K hK => ?_) (AllReady.cons rfl (fun K hK => ?_) AllReady.nil)
        · go_simp
          refine (turn_any _ _ _).mono ?_
          rintro e W ⟨rfl, hk⟩
          have HX8 := hx (hk.blk HX8.out (by simp))
          have HY8 := hx (hk.blk HY8.out (by simp))
          have K8 := hx (K8.out.trans0 hk)
          try have HZ8 := hx (hk.blk HZ8.out (by simp))
          clear hk
          try go_simp
          refine hK _ _ ?_
          clear hK K
          refine wpAny_ready (rs := [3, 4]) (by decide +kernel) (by simp) ?_
          refine AllReady.cons rfl (fun K hK => ?_) (AllReady.cons rfl (fun K hK => ?_) AllReady.nil)
          · go_simp
            refine (PZ.out _).mono ?_
            rintro e W ⟨rfl, hk⟩
            have HX8 := hx (hk.blk HX8.out (by simp))
            have HY8 := hx (hk.blk HY8.out (by simp))
            have K8 := hx (K8.out.trans0 hk)
            try have HZ8 := hx (hk.blk HZ8.out (by simp))
            clear hk
            try go_simp
            refine hK _ _ ?_
            clear hK K
            refine wpAny_ready (rs := [4]) (by decide +kernel) (by simp) ?_
            refine AllReady.cons rfl (fun K hK => ?_) AllReady.nil
            go_simp
            rename_i W
            have HZ8 := hx (Blk.new W (wideF false fun _ => 0) 70)
            have HX8 := hx (HX8.out.alloc (.cells (wideF false fun _ => 0).toArray 70))
            have HY8 := hx (HY8.out.alloc (.cells (wideF false fun _ => 0).toArray 70))
            have HZ9 := hx (show w.heap.size ≤ W.heap.size from K8.out.size)
            have K8 := hx (K8.out.alloc (.cells (wideF false fun _ => 0).toArray 70))
            generalize W.heap.size = g at *
            generalize W.alloc _ = W at *
            refine hK _ _ ?_
            clear hK K
            refine wpAny_ready (rs := [5]) (by decide +kernel) (by simp) ?_
            refine AllReady.cons rfl (fun K hK => ?_) AllReady.nil
            refine step_store rfl 70 (.tmp 11) (.tmp 26) rfl g 0 rfl 70 _ (wide M N) rfl HZ8.out (by rw [wide_len, wideF_len]; omega) (by rw [wide_len]; exact infoW) (wideF_one _ _) ?_
            intro W hbz hkz
            rw [setAll_all _ _ (by rw [wide_len, wideF_len])] at hbz
            try go_simp
            refine hK _ _ ?_
            clear hK K
            refine wpAny_done (by kernel_rfl) ?_ _
            go_wp2_with fail
            go_meet
            exact ⟨g, rfl, hbz, K8.out.trans hkz (fun _ h => h) (fun x h => by simp at h; subst h; exact .inr HZ9.out)⟩
          · go_simp
            rename_i W
            have HZ8 := hx (Blk.new W (wideF false fun _ => 0) 70)
            have HX8 := hx (HX8.out.alloc (.cells (wideF false fun _ => 0).toArray 70))
            have HY8 := hx (HY8.out.alloc (.cells (wideF false fun _ => 0).toArray 70))
            have HZ9 := hx (show w.heap.size ≤ W.heap.size from K8.out.size)
            have K8 := hx (K8.out.alloc (.cells (wideF false fun _ => 0).toArray 70))
            generalize W.heap.size = g at *
            generalize W.alloc _ = W at *
            refine hK _ _ ?_
            clear hK K
            refine wpAny_ready (rs := [3]) (by decide +kernel) (by simp) ?_
            refine AllReady.cons rfl (fun K hK => ?_) AllReady.nil
            go_simp
            refine (PZ.out _).mono ?_
            rintro e W ⟨rfl, hk⟩
            have HX8 := hx (hk.blk HX8.out (by simp))
            have HY8 := hx (hk.blk HY8.out (by simp))
            have K8 := hx (K8.out.trans0 hk)
            try have HZ8 := hx (hk.blk HZ8.out (by simp))
            clear hk
            try go_simp
            refine hK _ _ ?_
            clear hK K
            refine wpAny_ready (rs := [5]) (by decide +kernel) (by simp) ?_
            refine AllReady.cons rfl (fun K hK => ?_) AllReady.nil
            refine step_store rfl 70 (.tmp 11) (.tmp 26) rfl g 0 rfl 70 _ (wide M N) rfl HZ8.out (by rw [wide_len, wideF_len]; omega) (by rw [wide_len]; exact infoW) (wideF_one _ _) ?_
            intro W hbz hkz
            rw [setAll_all _ _ (by rw [wide_len, wideF_len])] at hbz
            try go_simp
            refine hK _ _ ?_
            clear hK K
            refine wpAny_done (by kernel_rfl) ?_ _
            go_wp2_with fail
            go_meet
            exact ⟨g, rfl, hbz, K8.out.trans hkz (fun _ h => h) (fun x h => by simp at h; subst h; exact .inr HZ9.out)⟩
        · go_simp
          rename_i W
          have HZ8 := hx (Blk.new W (wideF false fun _ => 0) 70)
          have HX8 := hx (HX8.out.alloc (.cells (wideF false fun _ => 0).toArray 70))
          have HY8 := hx (HY8.out.alloc (.cells (wideF false fun _ => 0).toArray 70))
          have HZ9 := hx (show w.heap.size ≤ W.heap.size from K8.out.size)
          have K8 := hx (K8.out.alloc (.cells (wideF false fun _ => 0).toArray 70))
          generalize W.heap.size = g at *
          generalize W.alloc _ = W at *
          refine hK _ _ ?_
          clear hK K
          refine wpAny_ready (rs := [2]) (by decide +kernel) (by simp) ?_
          refine AllReady.cons rfl (fun K hK => ?_) AllReady.nil
          go_simp
          refine (turn_any _ _ _).mono ?_
          rintro e W ⟨rfl, hk⟩
          have HX8 := hx (hk.blk HX8.out (by simp))
          have HY8 := hx (hk.blk HY8.out (by simp))
          have K8 := hx (K8.out.trans0 hk)
          try have HZ8 := hx (hk.blk HZ8.out (by simp))
          clear hk
          try go_simp
          refine hK _ _ ?_
          clear hK K
          refine wpAny_ready (rs := [3]) (by decide +kernel) (by simp) ?_
          refine AllReady.cons rfl (fun K hK => ?_) AllReady.nil
          go_simp
          refine (PZ.out _).mono ?_
          rintro e W ⟨rfl, hk⟩
          have HX8 := hx (hk.blk HX8.out (by simp))
          have HY8 := hx (hk.blk HY8.out (by simp))
          have K8 := hx (K8.out.trans0 hk)
          try have HZ8 := hx (hk.blk HZ8.out (by simp))
          clear hk
          try go_simp
          refine hK _ _ ?_
          clear hK K
          refine wpAny_ready (rs := [5]) (by decide +kernel) (by simp) ?_
          refine AllReady.cons rfl (fun K hK => ?_) AllReady.nil
          refine step_store rfl 70 (.tmp 11) (.tmp 26) rfl g 0 rfl 70 _ (wide M N) rfl HZ8.out (by rw [wide_len, wideF_len]; omega) (by rw [wide_len]; exact infoW) (wideF_one _ _) ?_
          intro W hbz hkz
          rw [setAll_all _ _ (by rw [wide_len, wideF_len])] at hbz
          try go_simp
          refine hK _ _ ?_
          clear hK K
          refine wpAny_done (by kernel_rfl) ?_ _
          go_wp2_with fail
          go_meet
          exact ⟨g, rfl, hbz, K8.out.trans hkz (fun _ h => h) (fun x h => by simp at h; subst h; exact .inr HZ9.out)⟩
      · go_simp
        refine (turn_any _ _ _).mono ?_
        rintro e W ⟨rfl, hk⟩
        have HX8 := hx (hk.blk HX8.out (by simp))
        have HY8 := hx (hk.blk HY8.out (by simp))
        have K8 := hx (K8.out.trans0 hk)
        try have HZ8 := hx (hk.blk HZ8.out (by simp))
        clear hk
        try go_simp
        refine hK _ _ ?_
        clear hK K
        refine wpAny_ready (rs := [0, 4]) (by decide +kernel) (by simp) ?_
        refine AllReady.cons rfl (fun K hK => ?_) (AllReady.cons rfl (fun K hK => ?_) AllReady.nil)
        · refine step_load rfl 70 (.tmp 9) rfl mx 0 rfl 70 _ _ _ HX8.out (Part.all _) Try.underlying70 rfl (by rw [wideF_len]; exact infoW) ?_
          try go_simp
          refine hK _ _ ?_
          clear hK K
          refine wpAny_ready (rs := [3, 4]) (by decide +kernel) (by simp) ?_
          refine AllReady.cons rfl (fun K hK => ?_) (AllReady.cons rfl (fun K hK => ?_) AllReady.nil)
          · go_simp
            refine (PZ.out _).mono ?_
            rintro e W ⟨rfl, hk⟩
            have HX8 := hx (hk.blk HX8.out (by simp))
            have HY8 := hx (hk.blk HY8.out (by simp))
            have K8 := hx (K8.out.trans0 hk)
            try have HZ8 := hx (hk.blk HZ8.out (by simp))
            clear hk
            try go_simp
            refine hK _ _ ?_
            clear hK K
            refine wpAny_ready (rs := [4]) (by decide +kernel) (by simp) ?_
            refine AllReady.cons rfl (fun K hK => ?_) AllReady.nil
            go_simp
            rename_i W
            have HZ8 := hx (Blk.new W (wideF false fun _ => 0) 70)
            have HX8 := hx (HX8.out.alloc (.cells (wideF false fun _ => 0).toArray 70))
            have HY8 := hx (HY8.out.alloc (.cells (wideF false fun _ => 0).toArray 70))
            have HZ9 := hx (show w.heap.size ≤ W.heap.size from K8.out.size)
            have K8 := hx (K8.out.alloc (.cells (wideF false fun _ => 0).toArray 70))
            generalize W.heap.size = g at *
            generalize W.alloc _ = W at *
            refine hK _ _ ?_
            clear hK K
            refine wpAny_ready (rs := [5]) (by decide +kernel) (by simp) ?_
            refine AllReady.cons rfl (fun K hK => ?_) AllReady.nil
            refine step_store rfl 70 (.tmp 11) (.tmp 26) rfl g 0 rfl 70 _ (wide M N) rfl HZ8.out (by rw [wide_len, wideF_len]; omega) (by rw [wide_len]; exact infoW) (wideF_one _ _) ?_
            intro W hbz hkz
            rw [setAll_all _ _ (by rw [wide_len, wideF_len])] at hbz
            try go_simp
            refine hK _ _ ?_
            clear hK K
            refine wpAny_done (by kernel_rfl) ?_ _
            go_wp2_with fail
            go_meet
            exact ⟨g, rfl, hbz, K8.out.trans hkz (fun _ h => h) (fun x h => by simp at h; subst h; exact .inr HZ9.out)⟩
          · go_simp
            rename_i W
            have HZ8 := hx (Blk.new W (wideF false fun _ => 0) 70)
            have HX8 := hx (HX8.out.alloc (.cells (wideF false fun _ => 0).toArray 70))
            have HY8 := hx (HY8.out.alloc (.cells (wideF false fun _ => 0).toArray 70))
            have HZ9 := hx (show w.heap.size ≤ W.heap.size from K8.out.size)
            have K8 := hx (K8.out.alloc (.cells (wideF false fun _ => 0).toArray 70))
            generalize W.heap.size = g at *
            generalize W.alloc _ = W at *
            refine hK _ _ ?_
            clear hK K
            refine wpAny_ready (rs := [3]) (by decide +kernel) (by simp) ?_
            refine AllReady.cons rfl (fun K hK => ?_) AllReady.nil
            go_simp
            refine (PZ.out _).mono ?_
            rintro e W ⟨rfl, hk⟩
            have HX8 := hx (hk.blk HX8.out (by simp))
            have HY8 := hx (hk.blk HY8.out (by simp))
            have K8 := hx (K8.out.trans0 hk)
            try have HZ8 := hx (hk.blk HZ8.out (by simp))
            clear hk
            try go_simp
            refine hK _ _ ?_
            clear hK K
            refine wpAny_ready (rs := [5]) (by decide +kernel) (by simp) ?_
            refine AllReady.cons rfl (fun K hK => ?_) AllReady.nil
            refine step_store rfl 70 (.tmp 11) (.tmp 26) rfl g 0 rfl 70 _ (wide M N) rfl HZ8.out (by rw [wide_len, wideF_len]; omega) (by rw [wide_len]; exact infoW) (wideF_one _ _) ?_
            intro W hbz hkz
            rw [setAll_all _ _ (by rw [wide_len, wideF_len])] at hbz
            try go_simp
            refine hK _ _ ?_
            clear hK K
            refine wpAny_done (by kernel_rfl) ?_ _
            go_wp2_with fail
            go_meet
            exact ⟨g, rfl, hbz, K8.out.trans hkz (fun _ h => h) (fun x h => by simp at h; subst h; exact .inr HZ9.out)⟩
        · go_simp
          rename_i W
          have HZ8 := hx (Blk.new W (wideF false fun _ => 0) 70)
          have HX8 := hx (HX8.out.alloc (.cells (wideF false fun _ => 0).toArray 70))
          have HY8 := hx (HY8.out.alloc (.cells (wideF false fun _ => 0).toArray 70))
          have HZ9 := hx (show w.heap.size ≤ W.heap.size from K8.out.size)
          have K8 := hx (K8.out.alloc (.cells (wideF false fun _ => 0).toArray 70))
          generalize W.heap.size = g at *
          generalize W.alloc _ = W at *
          refine hK _ _ ?_
          clear hK K
          refine wpAny_ready (rs := [0]) (by decide +kernel) (by simp) ?_
          refine AllReady.cons rfl (fun K hK => ?_) AllReady.nil
          refine step_load rfl 70 (.tmp 9) rfl mx 0 rfl 70 _ _ _ HX8.out (Part.all _) Try.underlying70 rfl (by rw [wideF_len]; exact infoW) ?_
          try go_simp
          refine hK _ _ ?_
          clear hK K
          refine wpAny_ready (rs := [3]) (by decide +kernel) (by simp) ?_
          refine AllReady.cons rfl (fun K hK => ?_) AllReady.nil
          go_simp
          refine (PZ.out _).mono ?_
          rintro e W ⟨rfl, hk⟩
          have HX8 := hx (hk.blk HX8.out (by simp))
          have HY8 := hx (hk.blk HY8.out (by simp))
          have K8 := hx (K8.out.trans0 hk)
          try have HZ8 := hx (hk.blk HZ8.out (by simp))
          clear hk
          try go_simp
          refine hK _ _ ?_
          clear hK K
          refine wpAny_ready (rs := [5]) (by decide +kernel) (by simp) ?_
          refine AllReady.cons rfl (fun K hK => ?_) AllReady.nil
          refine step_store rfl 70 (.tmp 11) (.tmp 26) rfl g 0 rfl 70 _ (wide M N) rfl HZ8.out (by rw [wide_len, wideF_len]; omega) (by rw [wide_len]; exact infoW) (wideF_one _ _) ?_
          intro W hbz hkz
          rw [setAll_all _ _ (by rw [wide_len, wideF_len])] at hbz
          try go_simp
          refine hK _ _ ?_
          clear hK K
          refine wpAny_done (by kernel_rfl) ?_ _
          go_wp2_with fail
          go_meet
          exact ⟨g, rfl, hbz, K8.out.trans hkz (fun _ h => h) (fun x h => by simp at h; subst h; exact .inr HZ9.out)⟩
      · go_simp
        rename_i W
        have HZ8 := hx (Blk.new W (wideF false fun _ => 0) 70)
        have HX8 := hx (HX8.out.alloc (.cells (wideF false fun _ => 0).toArray 70))
        have HY8 := hx (HY8.out.alloc (.cells (wideF false fun _ => 0).toArray 70))
        have HZ9 := hx (show w.heap.size ≤ W.heap.size from K8.out.size)
        have K8 := hx (K8.out.alloc (.cells (wideF false fun _ => 0).toArray 70))
        generalize W.heap.size = g at *
        generalize W.alloc _ = W at *
        refine hK _ _ ?_
        clear hK K
        refine wpAny_ready (rs := [0, 2]) (by decide +kernel) (by simp) ?_
        refine AllReady.cons rfl (fun K hK => ?_) (AllReady.cons rfl (fun K hK => ?_) AllReady.nil)
        · refine step_load rfl 70 (.tmp 9) rfl mx 0 rfl 70 _ _ _ HX8.out (Part.all _) Try.underlying70 rfl (by rw [wideF_len]; exact infoW) ?_
          try go_simp
          refine hK _ _ ?_
          clear hK K
          refine wpAny_ready (rs := [2]) (by decide +kernel) (by simp) ?_
          refine AllReady.cons rfl (fun K hK => ?_) AllReady.nil
          go_simp
          refine (turn_any _ _ _).mono ?_
          rintro e W ⟨rfl, hk⟩
          have HX8 := hx (hk.blk HX8.out (by simp))
          have HY8 := hx (hk.blk HY8.out (by simp))
          have K8 := hx (K8.out.trans0 hk)
          try have HZ8 := hx (hk.blk HZ8.out (by simp))
          clear hk
          try go_simp
          refine hK _ _ ?_
          clear hK K
          refine wpAny_ready (rs := [3]) (by decide +kernel) (by simp) ?_
          refine AllReady.cons rfl (fun K hK => ?_) AllReady.nil
          go_simp
          refine (PZ.out _).mono ?_
          rintro e W ⟨rfl, hk⟩
          have HX8 := hx (hk.blk HX8.out (by simp))
          have HY8 := hx (hk.blk HY8.out (by simp))
          have K8 := hx (K8.out.trans0 hk)
          try have HZ8 := hx (hk.blk HZ8.out (by simp))
          clear hk
          try go_simp
          refine hK _ _ ?_
          clear hK K
          refine wpAny_ready (rs := [5]) (by decide +kernel) (by simp) ?_
          refine AllReady.cons rfl (fun K hK => ?_) AllReady.nil
          refine step_store rfl 70 (.tmp 11) (.tmp 26) rfl g 0 rfl 70 _ (wide M N) rfl HZ8.out (by rw [wide_len, wideF_len]; omega) (by rw [wide_len]; exact infoW) (wideF_one _ _) ?_
          intro W hbz hkz
          rw [setAll_all _ _ (by rw [wide_len, wideF_len])] at hbz
          try go_simp
          refine hK _ _ ?_
          clear hK K
          refine wpAny_done (by kernel_rfl) ?_ _
          go_wp2_with fail
          go_meet
          exact ⟨g, rfl, hbz, K8.out.trans hkz (fun _ h => h) (fun x h => by simp at h; subst h; exact .inr HZ9.out)⟩
        · go_simp
          refine (turn_any _ _ _).mono ?_
          rintro e W ⟨rfl, hk⟩
          have HX8 := hx (hk.blk HX8.out (by simp))
          have HY8 := hx (hk.blk HY8.out (by simp))
          have K8 := hx (K8.out.trans0 hk)
          try have HZ8 := hx (hk.blk HZ8.out (by simp))
          clear hk
          try go_simp
          refine hK _ _ ?_
          clear hK K
          refine wpAny_ready (rs := [0]) (by decide +kernel) (by simp) ?_
          refine AllReady.cons rfl (fun K hK => ?_) AllReady.nil
          refine step_load rfl 70 (.tmp 9) rfl mx 0 rfl 70 _ _ _ HX8.out (Part.all _) Try.underlying70 rfl (by rw [wideF_len]; exact infoW) ?_
          try go_simp
          refine hK _ _ ?_
          clear hK K
          refine wpAny_ready (rs := [3]) (by decide +kernel) (by simp) ?_
          refine AllReady.cons rfl (fun K hK => ?_) AllReady.nil
          go_simp
          refine (PZ.out _).mono ?_
          rintro e W ⟨rfl, hk⟩
          have HX8 := hx (hk.blk HX8.out (by simp))
          have HY8 := hx (hk.blk HY8.out (by simp))
          have K8 := hx (K8.out.trans0 hk)
          try have HZ8 := hx (hk.blk HZ8.out (by simp))
          clear hk
          try go_simp
          refine hK _ _ ?_
          clear hK K
          refine wpAny_ready (rs := [5]) (by decide +kernel) (by simp) ?_
          refine AllReady.cons rfl (fun K hK => ?_) AllReady.nil
          refine step_store rfl 70 (.tmp 11) (.tmp 26) rfl g 0 rfl 70 _ (wide M N) rfl HZ8.out (by rw [wide_len, wideF_len]; omega) (by rw [wide_len]; exact infoW) (wideF_one _ _) ?_
          intro W hbz hkz
          rw [setAll_all _ _ (by rw [wide_len, wideF_len])] at hbz
          try go_simp
          refine hK _ _ ?_
          clear hK K
          refine wpAny_done (by kernel_rfl) ?_ _
          go_wp2_with fail
          go_meet
          exact ⟨g, rfl, hbz, K8.out.trans hkz (fun _ h => h) (fun x h => by simp at h; subst h; exact .inr HZ9.out)⟩
    · go_simp
      rename_i W
      have HZ8 := hx (Blk.new W (wideF false fun _ => 0) 70)
      have HX8 := hx (HX8.out.alloc (.cells (wideF false fun _ => 0).toArray 70))
      have HY8 := hx (HY8.out.alloc (.cells (wideF false fun _ => 0).toArray 70))
      have HZ9 := hx (show w.heap.size ≤ W.heap.size from K8.out.size)
      have K8 := hx (K8.out.alloc (.cells (wideF false fun _ => 0).toArray 70))
      generalize W.heap.size = g at *
      generalize W.alloc _ = W at *
      refine hK _ _ ?_
      clear hK K
      refine wpAny_ready (rs := [0, 1]) (by decide +kernel) (by simp) ?_
      refine AllReady.cons rfl (fun K hK => ?_) (AllReady.cons rfl (fun K hK => ?_) AllReady.nil)
      · refine step_load rfl 70 (.tmp 9) rfl mx 0 rfl 70 _ _ _ HX8.out (Part.all _) Try.underlying70 rfl (by rw [wideF_len]; exact infoW) ?_
        try go_simp
        refine hK _ _ ?_
        clear hK K
        refine wpAny_ready (rs := [1]) (by decide +kernel) (by simp) ?_
        refine AllReady.cons rfl (fun K hK => ?_) AllReady.nil
        refine step_load rfl 70 (.tmp 10) rfl my 0 rfl 70 _ _ _ HY8.out (Part.all _) Try.underlying70 rfl (by rw [wideF_len]; exact infoW) ?_
        try go_simp
        refine hK _ _ ?_
        clear hK K
        refine wpAny_ready (rs := [2]) (by decide +kernel) (by simp) ?_
        refine AllReady.cons rfl (fun K hK => ?_) AllReady.nil
        go_simp
        refine (turn_any _ _ _).mono ?_
        rintro e W ⟨rfl, hk⟩
        have HX8 := hx (hk.blk HX8.out (by simp))
        have HY8 := hx (hk.blk HY8.out (by simp))
        have K8 := hx (K8.out.trans0 hk)
        try have HZ8 := hx (hk.blk HZ8.out (by simp))
        clear hk
        try go_simp
        refine hK _ _ ?_
        clear hK K
        refine wpAny_ready (rs := [3]) (by decide +kernel) (by simp) ?_
        refine AllReady.cons rfl (fun K hK => ?_) AllReady.nil
        go_simp
        refine (PZ.out _).mono ?_
        rintro e W ⟨rfl, hk⟩
        have HX8 := hx (hk.blk HX8.out (by simp))
        have HY8 := hx (hk.blk HY8.out (by simp))
        have K8 := hx (K8.out.trans0 hk)
        try have HZ8 := hx (hk.blk HZ8.out (by simp))
        clear hk
        try go_simp
        refine hK _ _ ?_
        clear hK K
        refine wpAny_ready (rs := [5]) (by decide +kernel) (by simp) ?_
        refine AllReady.cons rfl (fun K hK => ?_) AllReady.nil
        refine step_store rfl 70 (.tmp 11) (.tmp 26) rfl g 0 rfl 70 _ (wide M N) rfl HZ8.out (by rw [wide_len, wideF_len]; omega) (by rw [wide_len]; exact infoW) (wideF_one _ _) ?_
        intro W hbz hkz
        rw [setAll_all _ _ (by rw [wide_len, wideF_len])] at hbz
        try go_simp
        refine hK _ _ ?_
        clear hK K
        refine wpAny_done (by kernel_rfl) ?_ _
        go_wp2_with fail
        go_meet
        exact ⟨g, rfl, hbz, K8.out.trans hkz (fun _ h => h) (fun x h => by simp at h; subst h; exact .inr HZ9.out)⟩
      · refine step_load rfl 70 (.tmp 10) rfl my 0 rfl 70 _ _ _ HY8.out (Part.all _) Try.underlying70 rfl (by rw [wideF_len]; exact infoW) ?_
        try go_simp
        refine hK _ _ ?_
        clear hK K
        refine wpAny_ready (rs := [0, 2]) (by decide +kernel) (by simp) ?_
        refine AllReady.cons rfl (fun K hK => ?_) (AllReady.cons rfl (fun K hK => ?_) AllReady.nil)
        · refine step_load rfl 70 (.tmp 9) rfl mx 0 rfl 70 _ _ _ HX8.out (Part.all _) Try.underlying70 rfl (by rw [wideF_len]; exact infoW) ?_
          try go_simp
          refine hK _ _ ?_
          clear hK K
          refine wpAny_ready (rs := [2]) (by decide +kernel) (by simp) ?_
          refine AllReady.cons rfl (fun K hK => ?_) AllReady.nil
          go_simp
          refine (turn_any _ _ _).mono ?_
          rintro e W ⟨rfl, hk⟩
          have HX8 := hx (hk.blk HX8.out (by simp))
          have HY8 := hx (hk.blk HY8.out (by simp))
          have K8 := hx (K8.out.trans0 hk)
          try have HZ8 := hx (hk.blk HZ8.out (by simp))
          clear hk
          try go_simp
          refine hK _ _ ?_
          clear hK K
          refine wpAny_ready (rs := [3]) (by decide +kernel) (by simp) ?_
          refine AllReady.cons rfl (fun K hK => ?_) AllReady.nil
          go_simp
          refine (PZ.out _).mono ?_
          rintro e W ⟨rfl, hk⟩
          have HX8 := hx (hk.blk HX8.out (by simp))
          have HY8 := hx (hk.blk HY8.out (by simp))
          have K8 := hx (K8.out.trans0 hk)
          try have HZ8 := hx (hk.blk HZ8.out (by simp))
          clear hk
          try go_simp
          refine hK _ _ ?_
          clear hK K
          refine wpAny_ready (rs := [5]) (by decide +kernel) (by simp) ?_
          refine AllReady.cons rfl (fun K hK => ?_) AllReady.nil
          refine step_store rfl 70 (.tmp 11) (.tmp 26) rfl g 0 rfl 70 _ (wide M N) rfl HZ8.out (by rw [wide_len, wideF_len]; omega) (by rw [wide_len]; exact infoW) (wideF_one _ _) ?_
          intro W hbz hkz
          rw [setAll_all _ _ (by rw [wide_len, wideF_len])] at hbz
          try go_simp
          refine hK _ _ ?_
          clear hK K
          refine wpAny_done (by kernel_rfl) ?_ _
          go_wp2_with fail
          go_meet
          exact ⟨g, rfl, hbz, K8.out.trans hkz (fun _ h => h) (fun x h => by simp at h; subst h; exact .inr HZ9.out)⟩
        · go_simp
          refine (turn_any _ _ _).mono ?_
          rintro e W ⟨rfl, hk⟩
          have HX8 := hx (hk.blk HX8.out (by simp))
          have HY8 := hx (hk.blk HY8.out (by simp))
          have K8 := hx (K8.out.trans0 hk)
          try have HZ8 := hx (hk.blk HZ8.out (by simp))
          clear hk
          try go_simp
          refine hK _ _ ?_
          clear hK K
          refine wpAny_ready (rs := [0]) (by decide +kernel) (by simp) ?_
          refine AllReady.cons rfl (fun K hK => ?_) AllReady.nil
          refine step_load rfl 70 (.tmp 9) rfl mx 0 rfl 70 _ _ _ HX8.out (Part.all _) Try.underlying70 rfl (by rw [wideF_len]; exact infoW) ?_
          try go_simp
          refine hK _ _ ?_
          clear hK K
          refine wpAny_ready (rs := [3]) (by decide +kernel) (by simp) ?_
          refine AllReady.cons rfl (fun K hK => ?_) AllReady.nil
          go_simp
          refine (PZ.out _).mono ?_
          rintro e W ⟨rfl, hk⟩
          have HX8 := hx (hk.blk HX8.out (by simp))
          have HY8 := hx (hk.blk HY8.out (by simp))
          have K8 := hx (K8.out.trans0 hk)
          try have HZ8 := hx (hk.blk HZ8.out (by simp))
          clear hk
          try go_simp
          refine hK _ _ ?_
          clear hK K
          refine wpAny_ready (rs := [5]) (by decide +kernel) (by simp) ?_
          refine AllReady.cons rfl (fun K hK => ?_) AllReady.nil
          refine step_store rfl 70 (.tmp 11) (.tmp 26) rfl g 0 rfl 70 _ (wide M N) rfl HZ8.out (by rw [wide_len, wideF_len]; omega) (by rw [wide_len]; exact infoW) (wideF_one _ _) ?_
          intro W hbz hkz
          rw [setAll_all _ _ (by rw [wide_len, wideF_len])] at hbz
          try go_simp
          refine hK _ _ ?_
          clear hK K
          refine wpAny_done (by kernel_rfl) ?_ _
          go_wp2_with fail
          go_meet
          exact ⟨g, rfl, hbz, K8.out.trans hkz (fun _ h => h) (fun x h => by simp at h; subst h; exact .inr HZ9.out)⟩
  case rest =>
    obtain ⟨g, rfl, hb, hk⟩ := hcut
    have HB := hx hb
    have HK := hx hk
    clear hb hk HX8 HY8 K8 hz HZ0 PZ
    go_wp2
    go_loopw [12] (fun iv wr => ∃ k : Nat, k ≤ 9 ∧ iv = .int .i64 k ∧ (∀ j, j < k → dig N j = 0) ∧ Blk wr g (wide M N) 70 ∧ Kept [] w wr) (fun iv _ => 9 - (intOf iv).toNat)
    case atStart => exact ⟨0, by omega, rfl, fun j hj => by omega, HB.out, HK.out⟩
    case round =>
      clear HB HK
      obtain ⟨k, hk9, rfl, h0, hb, hk⟩ := hrel
      have H0 := hx h0
      have HB := hx hb
      have HK := hx hk
      by_cases hlt : k < 9
      · have hki : (k : Int) < 9 := by omega
        have ck : wr.cell? ⟨g, 1 + k, none⟩ = some (.int .u64 ((dig N k : Nat) : Int)) := hb.cell (wideF_get M (dig N) hlt)
        have c0 := hb.cell (wideF_0 M (dig N))
        clear h0 hb hk
        by_cases hd : dig N k = 0
        · have HD := hx hd
          rw [hd] at ck
          clear hd
          go_wp2
          go_roundw
          case rel => exact ⟨k + 1, by omega, by go_num, fun j hj => by
            rcases Nat.lt_or_ge j k with g1 | g1
            · exact H0.out j g1
            · obtain rfl : j = k := by omega
              exact HD.out, HB.out, HK.out⟩
          case measure => simp [intOf] <;> omega
        · have hR := hx (E1.out (fun e => hd (by rw [e]; exact dig0 k)))
          have hp : (0 : Int) < ((dig N k : Nat) : Int) := by omega
          clear hd E1 E0
          generalize dig N k = x at *
          cases M
          · go_wp2
            go_ret
            exact ⟨by rw [hR.out]; rfl, HK.out⟩
          · go_wp2
            go_ret
            exact ⟨by rw [hR.out]; rfl, HK.out⟩
      · obtain rfl : k = 9 := by omega
        have hR := hx (E0.out (by have h := digs_0 N 9 h0; rw [Nat.mod_eq_of_lt HN.out] at h; exact h))
        clear h0 hb hk E0 E1 HN
        go_wp2
        go_ret
        exact ⟨by rw [hR.out]; rfl, HK.out⟩
end Go.Proofs.Ytgbikakhnmjllaa
