import Derived.Test.YtgbikakhnmjllaaWideT
import Derived.Deep.DeepCutAuto
namespace Go.Proofs.Ytgbikakhnmjllaa
open Go Go.RowKit
set_option maxRecDepth 100000 in
set_option maxHeartbeats 6400000 in
theorem times_any (na nb : Bool) (A B : Nat) (hA : A < 65536 ^ 4) (hB : B < 65536 ^ 4) (w : World) :
    Calls Try.prog 31 #[.agg (wide na A).toArray, .agg (wide nb B).toArray] w fun e w' => e = .returned (.agg (wide (na != nb) (A * B)).toArray) ∧ Kept [] w w' := by
  have hz := zeroW
  have T0 := hx (TmW.start w na nb A B)
  have HA := hx hA
  have HB := hx hB
  clear hA hB
  go_enter Try.func31, Try.ntmps31
  go_wp2_with fail
  generalize (((w.alloc (.cells (wide na A).toArray 70)).alloc (.cells (wide nb B).toArray 70)).alloc (.cells (wideF false fun _ => 0).toArray 70)).alloc (.cells (wideF false fun _ => 0).toArray 70) = W0 at *
  go_loopw [6] (fun iv wr => ∃ i : Nat, i ≤ 4 ∧ iv = .int .i64 i ∧ TmW w wr na nb A B (A % 65536 ^ i * B)) (fun iv _ => 4 - (intOf iv).toNat)
  case atStart => exact ⟨0, by omega, rfl, by rw [Nat.pow_zero, Nat.mod_one, Nat.zero_mul]; exact T0.out⟩
  case round =>
    clear T0
    obtain ⟨i, hi4, rfl, ht⟩ := hrel
    have HT := hx ht
    clear ht
    by_cases hlt : i < 4
    · have hi : (i : Int) < 4 := by omega
      have hc := dig_lt A i
      have HC := hx hc
      have HX := hx (out_next A B i)
      obtain ⟨c, hcd⟩ : ∃ c, c = dig A i := ⟨_, rfl⟩
      rw [← hcd] at HC HX
      have HCD := hx hcd
      have HN := hx (Blk.new wr (wideF false fun _ => 0) 70)
      have HT1 := hx (HT.out.kept ((Kept.refl [] wr).alloc (.cells (wideF false fun _ => 0).toArray 70)))
      have HM := hx (show w.heap.size + 1 + 1 + 1 < wr.heap.size from HT.out.o.lt)
      clear hcd hc HT
      go_upto_region 7 with fail
      clear hz
      generalize wr.heap.size = m at *
      generalize wr.alloc (.cells (wideF false fun _ => 0).toArray 70) = W1 at *
      go_wp2_with fail
      go_loopw [8, 9] (fun cv kv wr => ∃ k : Nat, k ≤ 4 ∧ kv = .int .i64 k ∧ cv = .int .u64 ((carT c B k : Nat) : Int) ∧ Blk wr m (wideF false (rowF c B i k)) 70 ∧ TmW w wr na nb A B (A % 65536 ^ i * B)) (fun _ kv _ => 4 - (intOf kv).toNat)
      case atStart => exact ⟨0, by omega, rfl, by rw [carT_0]; rfl, by rw [rowF_0]; exact HN.out, HT1.out⟩
      case round =>
        clear HN HT1
        obtain ⟨k, hk4, rfl, rfl, hb, ht⟩ := hrel
        have HT := hx ht
        have HR := hx hb
        clear hb ht
        have hf := HR.out.free
        by_cases hkl : k < 4
        · have hk : (k : Int) < 4 := by omega
          have c2 : wr.cell? ⟨w.heap.size, 1 + i, none⟩ = some (.int .u64 ((c : Nat) : Int)) := by rw [HCD.out]; exact HT.out.a.cell (wideF_get na (dig A) (by omega))
          have c3 : wr.cell? ⟨w.heap.size + 1, 1 + k, none⟩ = some (.int .u64 ((dig B k : Nat) : Int)) := HT.out.b.cell (wideF_get nb (dig B) (by omega))
          have hy := dig_lt B k
          have hcr := carT_lt c B k HC.out
          have H1 := hx (carT_next c B k)
          have H2 := hx (dig_mul c B k)
          generalize carT c B k = z at *
          generalize dig B k = y at *
          obtain ⟨x, hxx⟩ : ∃ x, x = c * y := ⟨_, rfl⟩
          have hxl : x < 4294836226 := by
            rw [hxx]
            exact Nat.lt_of_le_of_lt (Nat.mul_le_mul (Nat.le_of_lt_succ HC.out) (Nat.le_of_lt_succ hy)) (by decide)
          rw [← hxx] at H1 H2
          have s1 : IntKind.u64.wrap ((c : Int) * (y : Int)) = (x : Int) := by rw [hxx, IntKind.wrap_u64, ← Int.natCast_mul, ← hxx]; omega
          have s2 : IntKind.u64.wrap ((x : Int) + (z : Int)) = ((x + z : Nat) : Int) := by rw [IntKind.wrap_u64]; omega
          clear hxx
          have cm := HR.out.cell (wideF_get false (rowF c B i k) (show i + k < 9 by omega))
          generalize rowF c B i k (i + k) = u at *
          have HS := hx (show Blk _ m (wideF false (rowF c B i (k + 1))) 70 by
            have h := (HR.out.drew).set (1 + (i + k)) (.int .u64 (((x + z) % 65536 : Nat) : Int))
            rw [rowF_set c B i k _ (by omega) H2.out.symm, show (((x + z) % 65536 : Nat) : Int) = ((x : Int) + (z : Int)) % 65536 by omega] at h
            exact h)
          have HTS := hx ((HT.out.kept (Kept.refl [] wr).drew).new ((Kept.refl [m] wr.drew).setCell (p := ⟨m, 1 + (i + k), none⟩) (.inl (by simp)) (.int .u64 (((x : Int) + (z : Int)) % 65536))) HM.out)
          go_upto_region 10 with fail
          go_region
          all_goals
            clear c2 c3 s1 s2
            go_wp2
            go_roundw
            case rel => exact ⟨k + 1, by omega, by go_num, by rw [H1.out]; simp, HS.out, HTS.out⟩
            case measure => simp [intOf] <;> omega
        · obtain rfl : k = 4 := by omega
          have hkn : ¬ ((4 : Int) < 4) := by omega
          have H4 := hx (dig_last c B HC.out HB.out)
          have H5 := hx (rowF_5 c B i HC.out HB.out)
          have cm := HR.out.cell (wideF_get false (rowF c B i 4) (show i + 4 < 9 by omega))
          generalize rowF c B i 4 (i + 4) = u at *
          have HS := hx (show Blk _ m (wide false (c * B * 65536 ^ i)) 70 by
            have h := HR.out.set (1 + (i + 4)) (.int .u64 ((carT c B 4 : Nat) : Int))
            rw [rowF_set c B i 4 _ (by omega) H4.out, H5.out] at h
            exact h)
          have HTS := hx (HT.out.new ((Kept.refl [m] wr).setCell (p := ⟨m, 1 + (i + 4), none⟩) (.inl (by simp)) (.int .u64 ((carT c B 4 : Nat) : Int))) HM.out)
          generalize carT c B 4 = z at *
          clear HR HT H4 H5
          go_upto_region 14 with fail
          clear cm hf
          generalize wr.setCell ⟨m, 1 + (i + 4), none⟩ (.int .u64 (z : Int)) = W2 at *
          go_wp2_with (first
            | refine load_w rfl (.tmp 5) rfl (w.heap.size + 1 + 1 + 1) rfl false _ HTS.out.o ?_
            | refine load_w rfl (.tmp 7) rfl m rfl false _ HS.out ?_)
          refine (plus_any false false (A % 65536 ^ i * B) (c * B * 65536 ^ i) _).mono ?_
          rintro e w3 ⟨rfl, hk3⟩
          rw [HX.out]
          have HT3 := hx (HTS.out.kept hk3)
          clear hk3 HTS HS
          go_wp2_with (first
            | (refine store_w rfl (.tmp 5) (.tmp 46) rfl (w.heap.size + 1 + 1 + 1) rfl false _ (dig _) _ rfl HT3.out.o ?_
               intro w4 hb4 hk4
               have HT4 := hx (HT3.out.seto hb4 hk4)
               clear hb4 hk4 HT3))
          go_roundw
          case rel => exact ⟨i + 1, by omega, by go_num, HT4.out⟩
          case measure => simp [intOf] <;> omega
    · obtain rfl : i = 4 := by omega
      rw [Nat.mod_eq_of_lt HA.out] at HT
      have c0 := HT.out.a.cell (wideF_0 na (dig A))
      have c1 := HT.out.b.cell (wideF_0 nb (dig B))
      have c3 := HT.out.o.cell (wideF_0 false (dig (A * B)))
      have hf := HT.out.o.free
      obtain ⟨r, hr⟩ : ∃ r, r = (na != nb) := ⟨_, rfl⟩
      have HS := hx (show Blk _ (w.heap.size + 1 + 1 + 1) (wide r (A * B)) 70 from HT.out.o.set 0 (.bool r))
      have HR := hx (HT.out.r.set_ne (a := ⟨w.heap.size + 1 + 1 + 1, 0, none⟩) (by simp) (.bool r))
      have HK := hx (HT.out.k.setCell (p := ⟨w.heap.size + 1 + 1 + 1, 0, none⟩) (.inr (by simp; omega)) (.bool r))
      have HRr := hx hr
      clear HT
      cases na <;> cases nb
      all_goals
        simp at hr
        subst hr
        clear HRr
        go_wp2_with (first
          | refine load_w rfl (.tmp 5) rfl (w.heap.size + 1 + 1 + 1) rfl _ _ HS.out ?_
          | (refine store_w rfl (.tmp 4) (.tmp 53) rfl (w.heap.size + 1 + 1) rfl _ _ _ _ rfl HR.out ?_
             intro w4 hb4 hk4))
        exact bodyPost_ret (ret_w rfl _ (w.heap.size + 1 + 1) _ _ rfl hb4) rfl ⟨rfl, HK.out.trans hk4 (fun _ h => h) (fun x h => by simp at h; right; omega)⟩
end Go.Proofs.Ytgbikakhnmjllaa
