/- Scale; made rows. -/
import Derived.Test.YtjgnngnknhkpmaaGfC
import Derived.Test.YtjgnngnknhkpmaaApp
namespace Go.Proofs.Ytjgnngnknhkpmaa
open Go Go.RowKit
theorem made_bn (n : Nat) : (madeCells #[.int .u8 0] n).toList = (List.replicate n 0).map bn := by
  rw [toList_madeCells_one, List.map_replicate]
  rfl
def scaleL (a : Nat) (s : List Nat) : List Nat := s.map (gmul a)
/-- The first i are filled. -/
def fillB (n : Nat) (l : List Nat) (i : Nat) : List Value := tab n fun j => bn (if j < i then l.getD j 0 else 0)
theorem fillB_0 (n : Nat) (l : List Nat) : fillB n l 0 = (List.replicate n 0).map bn := by
  refine List.ext_getElem? fun i => ?_
  rw [List.getElem?_map, List.getElem?_replicate]
  rcases Nat.lt_or_ge i n with h | h
  · rw [fillB, tab_get h, if_pos h]; simp
  · rw [fillB, tab_out h, if_neg (by omega)]; rfl
theorem fillB_step (n : Nat) (l : List Nat) (i : Nat) (hi : i < n) : (fillB n l i).set i (bn (l.getD i 0)) = fillB n l (i + 1) :=
  tab_set hi (by simp) fun j _ hj => by
    by_cases h : j < i
    · rw [if_pos h, if_pos (by omega)]
    · rw [if_neg h, if_neg (by omega)]
theorem fillB_all (l : List Nat) : fillB l.length l l.length = l.map bn := by
  refine (tab_eq (by simp) fun i hi => ?_).symm
  rw [List.getElem?_map, if_pos hi, List.getD_eq_getElem?_getD, List.getElem?_eq_getElem hi]
  rfl
theorem fillB_at (n : Nat) (l : List Nat) (i j : Nat) (hj : j < n) : (fillB n l i)[j]? = some (bn (if j < i then l.getD j 0 else 0)) := tab_get hj
theorem scaleL_at (a : Nat) (s : List Nat) (i : Nat) (hi : i < s.length) : (scaleL a s).getD i 0 = gmul a (s.getD i 0) := by
  simp [scaleL, List.getD_eq_getElem?_getD, hi]
set_option maxRecDepth 100000 in
set_option maxHeartbeats 4000000 in
theorem scale_any (t a n c2 : Nat) (a2 : Option Addr) (s : List Nat) (w : World) (hT : Blk w t (tabC 255) 73) (ha : a < 256) (hs : s.length = n) (hso : Oct s) (h2 : Bn w a2 s) (hn : n ≤ 100000) :
    Calls Try.prog 56 #[.pointer (some ⟨t, 0, none⟩), .int .u8 a, .slice a2 n c2] w fun e w' => e = .returned (.slice (some ⟨w.heap.size, 0, none⟩) n n) ∧ Blk w' w.heap.size ((scaleL a s).map bn) 5 ∧ Kept [] w w' := by
  have hmk := makeU8 n (by omega)
  have B0 := hx (show Blk (w.alloc (.cells (madeCells #[.int .u8 0] n) 5)) w.heap.size (fillB n (scaleL a s) 0) 5 by
    have h := Blk.new' w (madeCells #[.int .u8 0] n) 5
    rw [made_bn, ← fillB_0 n (scaleL a s)] at h
    exact h)
  have K0 := hx ((Kept.refl [] w).alloc (.cells (madeCells #[.int .u8 0] n) 5))
  have HT := hx hT
  have H2 := hx h2
  have HS := hx hs
  have HO := hx hso
  have hni : (n : Int) ≤ 100000 := by omega
  clear hT h2 hs hso
  go_enter Try.func56, Try.ntmps56
  go_upto_region 2 with fail
  clear hmk
  generalize w.alloc (.cells (madeCells #[.int .u8 0] n) 5) = W at *
  go_wp2_with fail
  go_loopw [15] (fun iv wr => ∃ i : Nat, i ≤ n ∧ iv = .int .i64 i ∧ Blk wr w.heap.size (fillB n (scaleL a s) i) 5 ∧ Kept [] w wr) (fun iv _ => n - (intOf iv).toNat)
  case atStart => exact ⟨0, by omega, rfl, B0.out, K0.out⟩
  case round =>
    clear B0 K0
    obtain ⟨i, hi, rfl, hb, hk⟩ := hrel
    have HB := hx hb
    have HK := hx hk
    clear hb hk
    by_cases hlt : i < n
    · have hj : (i : Int) < (n : Int) := by omega
      have c1 := HB.out.cell (fillB_at n (scaleL a s) i i hlt)
      have f1 := HB.out.free
      obtain ⟨b2, o2, ha2, c2⟩ := (H2.out.kept HK.out) i (by rw [HS.out]; exact hlt)
      subst ha2
      unfold bn at c1 c2
      have HM := hx (gfmul_any t a (s.getD i 0) wr (HK.out.blk HT.out (by simp)) ha (HO.out.at i))
      have HV := hx (fillB_step n (scaleL a s) i hlt)
      have HE := hx (scaleL_at a s i (by rw [HS.out]; exact hlt))
      generalize s.getD i 0 = y at *
      go_wp2_with fail
      refine HM.out.mono ?_
      rintro e w2 ⟨rfl, m, rfl⟩
      have c3 := (HB.out.drewN m).cell (fillB_at n (scaleL a s) i i hlt)
      have f3 := (HB.out.drewN m).free
      have HB2 := hx (show Blk ((wr.drewN m).setCell ⟨w.heap.size, i, none⟩ (.int .u8 (gmul a y : Nat))) w.heap.size (fillB n (scaleL a s) (i + 1)) 5 by
        rw [← HV.out, HE.out]
        exact (HB.out.drewN m).set i _)
      have HK2 := hx ((HK.out.drewN m).setCell (p := ⟨w.heap.size, i, none⟩) (.inr (Nat.le_refl _)) (.int .u8 (gmul a y : Nat)))
      clear HB HK c1 c2 f1 HM HV HE
      go_wp2_with fail
      go_roundw
      case rel => exact ⟨i + 1, by omega, by go_num, HB2.out, HK2.out⟩
      case measure => simp [intOf] <;> omega
    · obtain rfl : i = n := by omega
      go_wp2
      go_ret
      refine ⟨rfl, ?_, HK.out⟩
      have h := HB.out
      have hl : i = (scaleL a s).length := by rw [scaleL, List.length_map, HS.out]
      rw [hl, fillB_all] at h
      exact h
end Go.Proofs.Ytjgnngnknhkpmaa
