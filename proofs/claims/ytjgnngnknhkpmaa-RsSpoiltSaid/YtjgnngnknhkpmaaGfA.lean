/- The program's tables. -/
import Derived.Test.YtjgnngnknhkpmaaProg
import Derived.Test.YtjgnngnknhkpmaaGfP
import Derived.Test.YtjgnngnknhkpmaaRow
import Derived.Deep.DeepCutAuto
import Derived.Deep.RegionLaw
import Derived.Deep.Onto
import Derived.Laws.BitsAllLaws
import Derived.Shelf.Abstract
import Derived.LoopTactic
namespace Go.Proofs.Ytjgnngnknhkpmaa
open Go Go.RowKit
structure Hx (p : Prop) : Prop where
  out : p
theorem hx {p : Prop} (h : p) : Hx p := ⟨h⟩
theorem kept_cell {w w' : World} {p : Addr} {v : Value} (hk : Kept [] w w') (h : w.cell? p = some v) : w'.cell? p = some v := by
  rw [hk.cell (block_lt_of_cell h) (by simp)]; exact h
theorem zeroTb : ∃ Z : Array Value, Z.toList = tabC 0 ∧ ∀ w, (zeroValue 73).run Try.prog w = .ok (.agg Z) w := ⟨(List.replicate 510 (Value.int .u8 0) ++ List.replicate 256 (Value.int .i64 0)).toArray, by rw [tabC_0], fun w => by kernel_rfl⟩
theorem xor285 : ∀ g : Nat, g < 256 → bits .xor .i64 ((g : Int) * 2) 285 = ((g * 2 ^^^ 285 : Nat) : Int) := by decide +kernel
set_option maxRecDepth 100000 in
set_option maxHeartbeats 4000000 in
theorem gfnew_any (w : World) :
    Calls Try.prog 12 #[] w fun e w' => e = .returned (.pointer (some ⟨w.heap.size, 0, none⟩)) ∧ Blk w' w.heap.size (tabC 255) 73 ∧ Kept [] w w' := by
  obtain ⟨Z, hZ, hz⟩ := zeroTb
  have B0 := hx (show Blk (w.alloc (.cells Z 73)) w.heap.size (tabC 0) 73 by
    have h := Blk.new' w Z 73
    rw [hZ] at h
    exact h)
  have K0 := hx ((Kept.refl [] w).alloc (.cells Z 73))
  clear hZ
  go_enter Try.func12, Try.ntmps12
  go_upto_region 2 with fail
  generalize w.alloc (.cells Z 73) = W at *
  go_wp2_with fail
  go_loopw [2, 6] (fun wv iv wr => ∃ i : Nat, i ≤ 255 ∧ iv = .int .i64 i ∧ wv = .int .i64 (gw i : Nat) ∧ Blk wr w.heap.size (tabC i) 73 ∧ Kept [] w wr) (fun _ iv _ => 255 - (intOf iv).toNat)
  case atStart => exact ⟨0, by omega, rfl, rfl, B0.out, K0.out⟩
  case round =>
    clear B0 K0
    obtain ⟨i, hi, rfl, rfl, hb, hk⟩ := hrel
    have HB := hx hb
    have HK := hx hk
    clear hb hk
    by_cases hlt : i < 255
    · have hj : (i : Int) < 255 := by omega
      obtain ⟨hg0, hg1⟩ := gw_ok i (by omega)
      have HS := hx (gw_step i)
      have HG := hx (tabC_step i hlt)
      have c1 := HB.out.cell (tabC_exp i i (by omega))
      have c2 := HB.out.cell (tabC_exp i (i + 255) (by omega))
      have f := HB.out.free
      have hu : IntKind.u8.wrap ((gw i : Nat) : Int) = ((gw i : Nat) : Int) := by rw [IntKind.wrap_u8]; omega
      generalize gw i = g at *
      go_upto_region 6 with fail
      have hl : (((tabC i).set i (.int .u8 (g : Nat))).set (i + 255) (.int .u8 (g : Nat)))[510 + g]? = some (.int .i64 ((logF i g : Nat) : Int)) := by
        rw [List.getElem?_set_ne (by omega), List.getElem?_set_ne (by omega)]
        exact tabC_log i g hg1
      have HB2 := hx (show Blk ((wr.setCell ⟨w.heap.size, i, none⟩ (.int .u8 (g : Nat))).setCell ⟨w.heap.size, i + 255, none⟩ (.int .u8 (g : Nat))).drew w.heap.size (((tabC i).set i (.int .u8 (g : Nat))).set (i + 255) (.int .u8 (g : Nat))) 73 from ((HB.out.set i _).set (i + 255) _).drew)
      have HK2 := hx (show Kept [] w ((wr.setCell ⟨w.heap.size, i, none⟩ (.int .u8 (g : Nat))).setCell ⟨w.heap.size, i + 255, none⟩ (.int .u8 (g : Nat))).drew from ((HK.out.setCell (p := ⟨w.heap.size, i, none⟩) (.inr (Nat.le_refl _)) _).setCell (p := ⟨w.heap.size, i + 255, none⟩) (.inr (Nat.le_refl _)) _).drew)
      go_region
      generalize ((wr.setCell ⟨w.heap.size, i, none⟩ (.int .u8 (g : Nat))).setCell ⟨w.heap.size, i + 255, none⟩ (.int .u8 (g : Nat))).drew = w2 at *
      clear c1 c2 f HB HK
      have c3 := HB2.out.cell hl
      have f3 := HB2.out.free
      clear hl
      have HB3 := hx (show Blk (w2.setCell ⟨w.heap.size, 510 + g, none⟩ (.int .i64 (i : Int))) w.heap.size (tabC (i + 1)) 73 by rw [← HG.out]; exact HB2.out.set (510 + g) _)
      have HK3 := hx (HK2.out.setCell (p := ⟨w.heap.size, 510 + g, none⟩) (.inr (Nat.le_refl _)) (.int .i64 (i : Int)))
      have HX := hx (xor285 g hg1)
      by_cases h2 : 255 < g * 2
      · have h2i : (255 : Int) < (g : Int) * 2 := by omega
        have HN := hx (show gw (i + 1) = g * 2 ^^^ 285 by rw [HS.out]; unfold gs; rw [if_pos h2])
        clear HS
        go_wp2_with fail
        go_roundw
        case rel => exact ⟨i + 1, by omega, by go_num, by rw [HX.out, HN.out], HB3.out, HK3.out⟩
        case measure => simp [intOf] <;> omega
      · have h2i : ¬ (255 : Int) < (g : Int) * 2 := by omega
        have HN := hx (show gw (i + 1) = g * 2 by rw [HS.out]; unfold gs; rw [if_neg h2])
        clear HS
        go_wp2_with fail
        go_roundw
        case rel => exact ⟨i + 1, by omega, by go_num, by rw [HN.out]; go_num, HB3.out, HK3.out⟩
        case measure => simp [intOf] <;> omega
    · obtain rfl : i = 255 := by omega
      go_wp2_with fail
      go_ret
      exact ⟨rfl, HB.out, HK.out⟩
end Go.Proofs.Ytjgnngnknhkpmaa
