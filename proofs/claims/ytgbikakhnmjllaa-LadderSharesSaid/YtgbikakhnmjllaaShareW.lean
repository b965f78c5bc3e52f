import Derived.Test.YtgbikakhnmjllaaShare
namespace Go.Proofs.Ytgbikakhnmjllaa
open Go Go.RowKit
theorem infoPl : (Try.prog.info? 60).map (·.size) = some 5 := by kernel_rfl
theorem zeroPl (w : World) : (zeroValue 60).run Try.prog w = .ok (.agg #[.string ByteArray.empty, .int .i64 0, .int .i64 0, .int .i64 0, .int .i64 0]) w := by kernel_rfl
theorem zeroPl' : ∃ Z : Array Value, Z.toList.length = 5 ∧ ∀ w, (zeroValue 60).run Try.prog w = .ok (.agg Z) w := ⟨_, rfl, zeroPl⟩
theorem infoI64 : (Try.prog.info? 2).map (fun i => (i.zero, i.size, i.bytes)) = some (some (.int .i64 0), 1, 8) := by kernel_rfl
theorem Kept.toGrown {g : Nat} {w w' : World} (h : Kept [g] w w') : w.grownBy w' (some g) := ⟨h.os, h.tape, h.output, h.size, fun k hk hn => h.block k hk (fun hc => by simp at hc; exact hn (by rw [hc]))⟩
theorem news1 {w : World} {g : Nat} {x : Value} {T : TypeId} (h : Blk w g [x] T) : ∀ ad, some (⟨g, 0, none⟩ : Addr) = some ad → ∀ j u, [x][j]? = some u → w.cell? (ad.add j) = some u := by
  intro ad ha j u hu
  simp only [Option.some.injEq] at ha
  subst ha
  rw [Addr.add_mid]
  simp only [Nat.zero_add]
  exact h.cell hu
theorem one1 {n : Int} {k : IntKind} : ∀ u ∈ [Value.int k n], u.oneCell' = true := by
  intro u hu
  simp only [List.mem_singleton] at hu
  rw [hu]; rfl
def prts (ms : List Int) (s : Int) (k : Nat) : List Value := tab k fun i => .int .i64 (prt ms s i)
theorem tab_push {α : Type} (k : Nat) (f : Nat → α) : tab (k + 1) f = tab k f ++ [f k] := by simp [tab, List.range_succ]
set_option maxRecDepth 100000 in
set_option maxHeartbeats 6400000 in
theorem share_any (a : Option Addr) (len cap : Nat) (ms : List Int) (w : World) (hP : Plys w a len cap ms) (h60 : len ≤ 60) :
    Calls Try.prog 16 #[.slice a len cap] w fun e w' => (∃ v, e = .returned v ∧ ((smM ms len = 0 ∧ v = .slice none 0 0) ∨ (0 < smM ms len ∧ w'.ownsRow w.heap.size 2 1 v len (prts ms (smM ms len) len)))) ∧ Kept [] w w' := by
  obtain ⟨Z, hZ, hz⟩ := zeroPl'
  have HP := hx hP
  have HZ := hx hZ
  have HBD := hx (smM_bd ms)
  have HGE := hx (smM_ge ms len hP.hfit)
  have HFT := hx hP.hfit
  clear hP hZ
  go_enter Try.func16, Try.ntmps16
  go_wp2
  go_loopw [3, 11] (fun sv iv wr => ∃ i : Nat, i ≤ len ∧ iv = .int .i64 i ∧ sv = .int .i64 (smM ms i) ∧ Kept [] w wr) (fun _ iv _ => len - (intOf iv).toNat)
  case atStart => exact ⟨0, by omega, rfl, rfl, Kept.refl _ _⟩
  case round =>
    obtain ⟨i, hi, rfl, rfl, hk⟩ := hrel
    have HK := hx hk
    clear hk
    by_cases hlt : i < len
    · have hli : (i : Int) < (len : Int) := by omega
      obtain ⟨b, off, cs, rfl, hcl, hc1, hone, hr⟩ := (HP.out.kept HK.out).hcell i hlt
      have HR := hx hr
      have HC := hx (And.intro hcl (And.intro hc1 hone))
      have hbz := hx (show Blk (wr.alloc (.cells Z 60)) wr.heap.size Z.toList 60 from Blk.new' wr Z _)
      have hft := HFT.out i hlt
      have hbd := HBD.out i
      have HFS := hx (show Fits (smM ms i) by have h := hbd.1; have g := hbd.2; unfold Fits; omega)
      have HS := hx (show hold (smM ms i + max 0 (ms.getD i 0)) = smM ms (i + 1) from rfl)
      generalize smM ms i = S at *
      generalize ms.getD i 0 = y at *
      have HF := hx hft
      clear hr hcl hc1 hone hft hbd
      go_upto_region 5 with (first
        | refine wpList_load_mid rfl 60 (.tmp 13) rfl b (off + i * 5) rfl cs _ HR.out Try.underlying60 rfl (by rw [HC.out.1]; exact infoPl) ?_
        | (refine store_blk rfl 60 (.tmp 5) (.tmp 14) rfl wr.heap.size rfl 60 _ _ rfl hbz.out (by rw [HZ.out, HC.out.1]) (by rw [HC.out.1]; exact infoPl) HC.out.2.2 ?_
           intro w1 hb1 hk1
           have c1 := hb1.cell HC.out.2.1
           have HK1 := hx ((HK.out.alloc _).trans hk1 (fun _ h => h) (fun x h => by simp at h; right; have := HK.out.size; omega))
           clear hb1 hk1 hbz HK))
      by_cases hy : 0 < y
      · have e : max 0 y = y := by omega
        have HW := hx (fun w => wadd_any S y w HFS.out HF.out)
        rw [e] at HS
        rw [HS.out] at HW
        clear e
        go_wp2_with fail
        refine (HW.out _).mono ?_
        rintro e w2 ⟨rfl, rfl⟩
        go_wp2
        go_roundw
        case rel => exact ⟨i + 1, by omega, by go_num, rfl, HK1.out⟩
        case measure => simp [intOf] <;> omega
      · have e : max 0 y = 0 := by omega
        have hy3 : y ≤ 0 := by omega
        clear hy
        have HW := hx (fun w => wadd_any S 0 w HFS.out (by unfold Fits; omega))
        rw [e] at HS
        rw [HS.out] at HW
        clear e
        go_wp2_with fail
        refine (HW.out _).mono ?_
        rintro e w2 ⟨rfl, rfl⟩
        go_wp2
        go_roundw
        case rel => exact ⟨i + 1, by omega, by go_num, rfl, HK1.out⟩
        case measure => simp [intOf] <;> omega
    · obtain rfl : i = len := by omega
      obtain ⟨S, hS⟩ : ∃ S, S = smM ms i := ⟨_, rfl⟩
      have HSB := HBD.out i
      rw [← hS] at HGE HSB
      have HSE := hx hS
      rw [← hS]
      clear hS
      by_cases h0 : S = 0
      · have h0' := hx h0
        rw [h0]
        go_wp2
        go_ret
        exact ⟨⟨_, rfl, .inl ⟨by rw [← HSE.out]; exact h0'.out, rfl⟩⟩, HK.out⟩
      · have hpos : 0 < S := by omega
        have HPOS := hx hpos
        have hsb := HSB.2
        have hs0 : (S == 0) = false := by simp [h0]
        clear h0
        go_wp2
        go_loopw [6, 25] (fun ov iv wr => ∃ (k : Nat) (v : Value), k ≤ i ∧ iv = .int .i64 k ∧ v = ov ∧ wr.ownsRow w.heap.size 2 1 v k (prts ms S k) ∧ Kept [] w wr) (fun _ iv _ => i - (intOf iv).toNat)
        case atStart => exact ⟨0, _, by omega, rfl, rfl, World.ownsRow_nil _ _ _ _, HK.out⟩
        case round =>
        clear HK
        obtain ⟨k, v, hk, rfl, rfl, ho, hkr⟩ := hrel
        have HO := hx ho
        have HK := hx hkr
        clear ho hkr
        by_cases hlt : k < i
        · have hli : (k : Int) < (i : Int) := by omega
          obtain ⟨b, off, cs, rfl, hcl, hc1, hone, hr⟩ := (HP.out.kept HK.out).hcell k hlt
          have HL := hx (And.intro HP.out.hle HP.out.htop)
          have HR := hx hr
          have HC := hx (And.intro hcl (And.intro hc1 hone))
          have hbz := hx (show Blk (wr.alloc (.cells Z 60)) wr.heap.size Z.toList 60 from Blk.new' wr Z _)
          have hge := HGE.out k hlt
          have HPR := hx (show prt ms S k = max 0 (ms.getD k 0) * 65536 / S from rfl)
          generalize ms.getD k 0 = y at *
          clear hr hcl hc1 hone
          go_upto_region 13 with (first
            | refine wpList_load_mid rfl 60 (.tmp 27) rfl b (off + k * 5) rfl cs _ HR.out Try.underlying60 rfl (by rw [HC.out.1]; exact infoPl) ?_
            | (refine store_blk rfl 60 (.tmp 8) (.tmp 28) rfl wr.heap.size rfl 60 _ _ rfl hbz.out (by rw [HZ.out, HC.out.1]) (by rw [HC.out.1]; exact infoPl) HC.out.2.2 ?_
               intro w1 hb1 hk1
               have c1 := hb1.cell HC.out.2.1
               have HO1 := hx (World.ownsRow.kept (HO.out.alloc (.cells Z 60)) (Kept.toGrown hk1) (by
                 rcases hv : v.ownBlock with _ | g
                 · exact .inl rfl
                 · refine .inr ?_
                   have h := (HO.out.lt g hv).2
                   simp
                   omega))
               have HK1 := hx ((HK.out.alloc _).trans hk1 (fun _ h => h) (fun x h => by simp at h; right; have := HK.out.size; omega))
               clear hb1 hk1 hbz HK HO))
          by_cases hy : 0 < y
          · have e : max 0 y = y := by omega
            rw [e] at HPR hge
            have HW := hx (fun w => div_any y S w (by omega) hge HPOS.out hsb)
            rw [← HPR.out] at HW
            clear e hge
            go_wp2_with fail
            refine (HW.out _).mono ?_
            rintro e w2 ⟨rfl, rfl⟩
            have HO2 := hx (HO1.out.alloc (.cells #[.int .i64 (prt ms S k)] 2))
            have HK2 := hx (HK1.out.alloc (.cells #[.int .i64 (prt ms S k)] 2))
            have HN2 := hx (Blk.new w1 [.int .i64 (prt ms S k)] 2)
            clear HK1 HO1
            go_wp2_with (first
              | (at_builtin; refine wpList_app rfl (.tmp 29) (.tmp 35) 56 rfl w.heap.size 2 (.int .i64 0) 1 8 infoI64 Try.underlying56 rfl (by omega) v k (prts ms S k) rfl HO2.out (some ⟨w1.heap.size, 0, none⟩) 1 1 [.int .i64 (prt ms S k)] rfl rfl (by simp) (by omega) (news1 HN2.out) one1 (by have h1 := HL.out.1; have h2 := HL.out.2; omega) (by omega) HK2.out.size ?_; intro v' w3 ho3 hg3; have HO3 := hx ho3; have HK3 := hx (HK2.out.grown hg3 (fun k hk => .inr (HO2.out.lt k hk).1)); clear ho3 hg3 HO2 HK2 HN2))
            go_wp2
            go_roundw
            case rel => exact ⟨k + 1, v', by omega, by go_num, rfl, by have h := HO3.out; unfold prts; rw [tab_push]; exact h, HK3.out⟩
            case measure => simp [intOf] <;> omega
          · have e : max 0 y = 0 := by omega
            have hy3 : y ≤ 0 := by omega
            rw [e] at HPR hge
            have HW := hx (fun w => div_any 0 S w (by omega) hge HPOS.out hsb)
            rw [← HPR.out] at HW
            clear e hge hy
            go_wp2_with fail
            refine (HW.out _).mono ?_
            rintro e w2 ⟨rfl, rfl⟩
            have HO2 := hx (HO1.out.alloc (.cells #[.int .i64 (prt ms S k)] 2))
            have HK2 := hx (HK1.out.alloc (.cells #[.int .i64 (prt ms S k)] 2))
            have HN2 := hx (Blk.new w1 [.int .i64 (prt ms S k)] 2)
            clear HK1 HO1
            go_wp2_with (first
              | (at_builtin; refine wpList_app rfl (.tmp 29) (.tmp 35) 56 rfl w.heap.size 2 (.int .i64 0) 1 8 infoI64 Try.underlying56 rfl (by omega) v k (prts ms S k) rfl HO2.out (some ⟨w1.heap.size, 0, none⟩) 1 1 [.int .i64 (prt ms S k)] rfl rfl (by simp) (by omega) (news1 HN2.out) one1 (by have h1 := HL.out.1; have h2 := HL.out.2; omega) (by omega) HK2.out.size ?_; intro v' w3 ho3 hg3; have HO3 := hx ho3; have HK3 := hx (HK2.out.grown hg3 (fun k hk => .inr (HO2.out.lt k hk).1)); clear ho3 hg3 HO2 HK2 HN2))
            go_wp2
            go_roundw
            case rel => exact ⟨k + 1, v', by omega, by go_num, rfl, by have h := HO3.out; unfold prts; rw [tab_push]; exact h, HK3.out⟩
            case measure => simp [intOf] <;> omega
        · obtain rfl : k = i := by omega
          go_wp2
          go_ret
          exact ⟨⟨_, rfl, .inr ⟨by rw [← HSE.out]; exact HPOS.out, by rw [← HSE.out]; exact HO.out⟩⟩, HK.out⟩
end Go.Proofs.Ytgbikakhnmjllaa
