/- Rows of bytes: Mix, Scale. -/
import Derived.Test.YtjgnngnknhkpmaaGfB
namespace Go.Proofs.Ytjgnngnknhkpmaa
open Go Go.RowKit
def bn (x : Nat) : Value := .int .u8 (x : Int)
def Oct (l : List Nat) : Prop := ∀ x ∈ l, x < 256
/-- Bytes, where they lie. -/
def Bn (w : World) (a : Option Addr) (xs : List Nat) : Prop := ∀ i, i < xs.length → ∃ b off, a = some ⟨b, off, none⟩ ∧ w.cell? ⟨b, off + i, none⟩ = some (bn (xs.getD i 0))
theorem Bn.kept {w w2 : World} {a : Option Addr} {xs : List Nat} (h : Bn w a xs) (hk : Kept [] w w2) : Bn w2 a xs := fun i hi => by
  obtain ⟨b, off, h1, h2⟩ := h i hi
  exact ⟨b, off, h1, kept_cell hk h2⟩
theorem Oct.at {l : List Nat} (h : Oct l) (i : Nat) : l.getD i 0 < 256 := by
  rcases Nat.lt_or_ge i l.length with hi | hi
  · rw [List.getD_eq_getElem?_getD, List.getElem?_eq_getElem hi]; exact h _ (List.getElem_mem hi)
  · rw [List.getD_eq_getElem?_getD, List.getElem?_eq_none hi]; simp
theorem Oct.take {l : List Nat} (h : Oct l) (n : Nat) : Oct (l.take n) := fun x hx => h x (List.mem_of_mem_take hx)
def mixL (a : Nat) (r s : List Nat) : List Nat := List.zipWith (fun x y => x ^^^ gmul a y) r s
theorem mixL_len (a : Nat) (r s : List Nat) (h : r.length = s.length) : (mixL a r s).length = r.length := by simp [mixL, h]
theorem mixL_at (a : Nat) (r s : List Nat) (h : r.length = s.length) (i : Nat) (hi : i < r.length) : (mixL a r s)[i]? = some (r.getD i 0 ^^^ gmul a (s.getD i 0)) := by
  simp [mixL, List.getElem?_zipWith, List.getD_eq_getElem?_getD, hi, show i < s.length by omega]
theorem mixL_oct {a : Nat} {r s : List Nat} (hr : Oct r) (h : r.length = s.length) : Oct (mixL a r s) := by
  intro x hx
  obtain ⟨i, hi, rfl⟩ := List.getElem_of_mem hx
  rw [mixL_len a r s h] at hi
  have h1 := mixL_at a r s h i hi
  rw [List.getElem?_eq_getElem (by rw [mixL_len a r s h]; exact hi)] at h1
  simp only [Option.some.injEq] at h1
  rw [h1]
  exact Nat.xor_lt_two_pow (n := 8) (hr.at i) (gmul_lt _ _)
theorem setAll_step (ys : List Value) (o : Nat) (l : List Value) (i : Nat) (hi : i < l.length) (h : o + l.length ≤ ys.length) : (setAll ys o (l.take i)).set (o + i) l[i] = setAll ys o (l.take (i + 1)) := by
  refine List.ext_getElem? fun p => ?_
  have h1 : (l.take i).length = i := by rw [List.length_take]; omega
  have h2 : (l.take (i + 1)).length = i + 1 := by rw [List.length_take]; omega
  rw [List.getElem?_set, setAll_len, setAll_get _ _ _ (by omega), setAll_get _ _ _ (by omega), h1, h2]
  by_cases hp : o + i = p
  · subst hp
    rw [if_pos rfl, if_pos (by omega), if_pos (by omega), show o + i - o = i by omega, List.getElem?_take, if_pos (by omega), List.getElem?_eq_getElem hi]
  · rw [if_neg hp]
    by_cases hq : o ≤ p ∧ p < o + i
    · rw [if_pos hq, if_pos (by omega), List.getElem?_take, List.getElem?_take, if_pos (by omega), if_pos (by omega)]
    · rw [if_neg hq, if_neg (by omega)]
theorem setAll_free (ys : List Value) (o : Nat) (l : List Value) (i : Nat) (hi : i ≤ l.length) (h : o + l.length ≤ ys.length) (p : Nat) (hp : p < o ∨ o + i ≤ p) : (setAll ys o (l.take i))[p]? = ys[p]? := by
  have h1 : (l.take i).length = i := by rw [List.length_take]; omega
  rw [setAll_get _ _ _ (by omega), h1, if_neg (by omega)]
theorem Blk.cell?_at {w : World} {b : Nat} {xs : List Value} {T : TypeId} (h : Blk w b xs T) (i : Nat) : w.cell? ⟨b, i, none⟩ = xs[i]? := by
  unfold Blk at h
  simp [World.cell?, h]
set_option maxRecDepth 100000 in
set_option maxHeartbeats 4000000 in
theorem mix_any (t a b1 o1 c1 n c2 : Nat) (a2 : Option Addr) (ys : List Value) (r s : List Nat) (w : World) (hT : Blk w t (tabC 255) 73) (ha : a < 256) (hb : Blk w b1 ys 5) (hr : r.length = n) (hs : s.length = n) (hro : Oct r) (hso : Oct s)
    (hy : ∀ i, i < n → ys[o1 + i]? = some (bn (r.getD i 0))) (h2 : Bn w a2 s) (hd : ∀ b2 o2, a2 = some ⟨b2, o2, none⟩ → b2 ≠ b1 ∨ o2 + n ≤ o1 ∨ o1 + n ≤ o2) (ht : t ≠ b1) (hn : n ≤ 100000) :
    Calls Try.prog 51 #[.pointer (some ⟨t, 0, none⟩), .slice (some ⟨b1, o1, none⟩) n c1, .int .u8 a, .slice a2 n c2] w fun e w' => e = .returned (.tuple #[]) ∧ Blk w' b1 (setAll ys o1 ((mixL a r s).map bn)) 5 ∧ Kept [b1] w w' := by
  have HT := hx hT
  have hlen : o1 + n ≤ ys.length ∨ n = 0 := by
    rcases Nat.eq_zero_or_pos n with h | h
    · exact .inr h
    · have h1 := hy (n - 1) (by omega)
      have h2 := (List.getElem?_eq_some_iff.1 h1).1
      left; omega
  have HML := hx (show ((mixL a r s).map bn).length = n by rw [List.length_map, mixL_len a r s (by omega), hr])
  have HB0 := hx (show Blk w b1 (setAll ys o1 (((mixL a r s).map bn).take 0)) 5 from hb)
  have HY := hx hy
  have HB00 := hx hb
  have H2 := hx h2
  have HD := hx hd
  have HR := hx hr
  have HS := hx hs
  have HMA := hx (fun i (hi : i < n) => mixL_at a r s (by omega) i (by omega))
  have HO := hx (And.intro hro hso)
  have HTB := hx ht
  have hni : (n : Int) ≤ 100000 := by omega
  clear hT hb hy h2 hd hr hs hro hso ht
  go_enter Try.func51, Try.ntmps51
  go_wp2_with fail
  go_loopw [14] (fun iv wr => ∃ i : Nat, i ≤ n ∧ iv = .int .i64 i ∧ Blk wr b1 (setAll ys o1 (((mixL a r s).map bn).take i)) 5 ∧ Kept [b1] w wr) (fun iv _ => n - (intOf iv).toNat)
  case atStart => exact ⟨0, by omega, rfl, HB0.out, Kept.refl _ _⟩
  case round =>
    clear HB0
    obtain ⟨i, hi, rfl, hb, hk⟩ := hrel
    have HB := hx hb
    have HK := hx hk
    clear hb hk
    by_cases hlt : i < n
    · have hj : (i : Int) < (n : Int) := by omega
      have hle : o1 + n ≤ ys.length := by omega
      have c1 := HB.out.cell (i := o1 + i) (v := bn (r.getD i 0)) (by rw [setAll_free _ _ _ i (by rw [HML.out]; omega) (by rw [HML.out]; omega) _ (.inr (Nat.le_refl _))]; exact HY.out i hlt)
      have f1 := HB.out.free
      obtain ⟨b2, o2, ha2, c2⟩ := H2.out i (by rw [HS.out]; exact hlt)
      have HD2 := HD.out b2 o2 ha2
      have c2' : wr.cell? ⟨b2, o2 + i, none⟩ = some (bn (s.getD i 0)) := by
        by_cases hbb : b2 = b1
        · subst hbb
          have hc3 := HB00.out.cell?_at (o2 + i)
          rw [hc3] at c2
          rw [HB.out.cell?_at (o2 + i), setAll_free _ _ _ i (by rw [HML.out]; omega) (by rw [HML.out]; omega) _ (by omega)]
          exact c2
        · rw [HK.out.cell (block_lt_of_cell c2) (by simpa using hbb)]; exact c2
      subst ha2
      unfold bn at c1 c2'
      have hx1 := HO.out.1.at i
      have hx2 := HO.out.2.at i
      have hM := HMA.out i hlt
      have HM := hx (fun w3 (hk : Kept [] wr w3) => gfmul_any t a (s.getD i 0) w3 (hk.blk (HK.out.blk HT.out (by simp; exact HTB.out)) (by simp)) ha hx2)
      generalize r.getD i 0 = x at *
      generalize s.getD i 0 = y at *
      clear c2 HD2 HMA
      go_upto_region 3 with fail
      go_region_with (go_at_call 57; refine (HM.out _ (by first | exact Kept.refl _ _ | exact (Kept.refl _ _).drew)).mono ?_; rintro e w2 ⟨rfl, m, rfl⟩)
      all_goals
        have HB2 := hx (show Blk ((wr.drewN (1 + m)).setCell ⟨b1, o1 + i, none⟩ (.int .u8 (bits .xor .u8 (x : Int) (gmul a y : Nat)))) b1 (setAll ys o1 (((mixL a r s).map bn).take (i + 1))) 5 by
          rw [← setAll_step _ _ _ i (by rw [HML.out]; exact hlt) (by rw [HML.out]; exact hle)]
          have hv : ((mixL a r s).map bn)[i]'(by rw [HML.out]; exact hlt) = .int .u8 (bits .xor .u8 (x : Int) (gmul a y : Nat)) := by
            rw [u8_xor_nat x (gmul a y) hx1 (gmul_lt _ _)]
            have h1 : ((mixL a r s).map bn)[i]? = some (bn (x ^^^ gmul a y)) := by rw [List.getElem?_map, hM]; rfl
            rw [List.getElem?_eq_getElem (by rw [HML.out]; exact hlt)] at h1
            exact Option.some.inj h1
          rw [hv]
          exact (HB.out.drewN _).set (o1 + i) _)
        have HK2 := hx ((HK.out.drewN (1 + m)).setCell (p := ⟨b1, o1 + i, none⟩) (.inl (by simp)) (.int .u8 (bits .xor .u8 (x : Int) (gmul a y : Nat))))
        clear HB HK c1 c2' f1 hx1 hx2 hM HM
        go_wp2_with fail
        go_roundw
        case rel => exact ⟨i + 1, by omega, by go_num, HB2.out, HK2.out⟩
        case measure => simp [intOf] <;> omega
    · obtain rfl : i = n := by omega
      go_wp2
      go_end0
      refine ⟨rfl, ?_, HK.out⟩
      have h := HB.out
      rw [List.take_of_length_le (by rw [HML.out]; exact Nat.le_refl _)] at h
      exact h
end Go.Proofs.Ytjgnngnknhkpmaa
