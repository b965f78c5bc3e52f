/- A word and numbers: line of the program, join of the document. -/
import Derived.Test.YtdfbofkdlgfblaaDoorScH
namespace Go.Proofs.YtdfbofkdlgfblaaDoor
open Go Go.RowKit
/-- A word, and numbers. -/
def accL (wd : List UInt8) (ns : List Int) : List UInt8 := wd ++ ns.flatMap fun n => 32 :: numL n
theorem accL_snoc (wd : List UInt8) (ns : List Int) (n : Int) : accL wd (ns ++ [n]) = accL wd ns ++ 32 :: numL n := by
  unfold accL
  rw [List.flatMap_append, List.append_assoc]
  simp
theorem accL_join (wd : List UInt8) : ∀ ns : List Int, accL wd ns = joinL (wd :: ns.map numL) := by
  intro ns
  induction ns generalizing wd with
  | nil => simp [accL, joinL]
  | cons n ns ih =>
    rw [List.map_cons, joinL_cons _ (by simp), ← ih]
    simp [accL]
theorem accL_line (k : Int) (ns : List Int) : accL (wordL k) ns = lineK k ns := accL_join _ _
theorem accL_len (wd : List UInt8) : ∀ {ns : List Int}, (∀ n, n ∈ ns → in64 n) → (accL wd ns).length ≤ wd.length + 21 * ns.length := by
  intro ns
  induction ns using snoc_ind with
  | h0 => intro _; simp [accL]
  | h1 ns n ih =>
    intro h
    have h1 := ih (fun m hm => h m (by simp [hm]))
    have h2 := numL_len (h n (by simp))
    rw [accL_snoc, List.length_append, List.length_cons, List.length_append, List.length_singleton]
    omega
/-- A slice value that reads as numbers. -/
def Rw (w : World) (a : Option Addr) (ns : List Int) : Prop := ∀ (j : Nat) (x : Int), ns[j]? = some x → ∃ g o, a = some ⟨g, o, none⟩ ∧ w.cell? ⟨g, o + j, none⟩ = some (.int .i64 x)
theorem Rw.kept {w w' : World} {a : Option Addr} {ns : List Int} (h : Rw w a ns) (hk : Kept [] w w') : Rw w' a ns := by
  intro j x hx
  obtain ⟨g, o, ha, hc⟩ := h j x hx
  exact ⟨g, o, ha, by rw [hk.cell (World.block_lt_of_cell? _ _ hc) (by simp)]; exact hc⟩
theorem Rw.blk {w : World} {g : Nat} {xs : List Value} {T : TypeId} {ns : List Int} (h : Blk w g xs T) (ht : xs.take ns.length = ints ns) : Rw w (some ⟨g, 0, none⟩) ns := by
  intro j x hx
  refine ⟨g, 0, rfl, ?_⟩
  rw [Nat.zero_add]
  apply h.cell
  have hj : j < ns.length := (List.getElem?_eq_some_iff.1 hx).1
  have h1 := ints_get hx
  rw [← ht, List.getElem?_take_of_lt hj] at h1
  exact h1
theorem Rw.nil (w : World) (a : Option Addr) : Rw w a [] := fun j x h => by simp at h
set_option maxRecDepth 100000 in
set_option maxHeartbeats 6400000 in
theorem join_any (wd : List UInt8) (ns : List Int) (a : Option Addr) (c : Nat) (w : World) (ha : Rw w a ns) (h64 : ∀ n, n ∈ ns → in64 n) (hw : wd.length ≤ 1000) (hl : ns.length ≤ 1000) :
    Calls Tryd.prog 29 #[txt wd, .slice a ns.length c] w fun e w' => e = .returned (txt (accL wd ns)) ∧ Kept [] w w' := by
  have HA := hx ha
  have H64 := hx h64
  have HWL := hx (And.intro hw hl)
  clear ha h64
  generalize hn : ns.length = n at *
  have HN := hx hn
  clear hn
  go_enter Tryd.func29, Tryd.ntmps29
  go_wp2_with fail
  go_loopw [0, 5] (fun sv iv wr => ∃ (i : Nat) (l : List UInt8), i ≤ n ∧ iv = .int .i64 (i : Int) ∧ sv = txt l ∧ l = accL wd (ns.take i) ∧ Kept [] w wr) (fun _ iv _ => n - (intOf iv).toNat)
  case atStart => exact ⟨0, wd, Nat.zero_le _, rfl, rfl, by simp [accL], Kept.refl _ _⟩
  case round =>
    obtain ⟨i, l, hi, rfl, rfl, hl2, hk⟩ := hrel
    have HK := hx hk
    have HL := hx hl2
    have HI := hx hi
    by_cases hlt : i < n
    · have hil : (i : Int) < (n : Int) := by omega
      obtain ⟨x, hxx⟩ : ∃ x, ns[i]? = some x := ⟨_, List.getElem?_eq_getElem (by have := HN.out; omega)⟩
      obtain ⟨g, o, rfl, hc⟩ := HA.out.kept hk i x hxx
      have hx64 : in64 x := H64.out x (List.mem_of_getElem? hxx)
      have HNU := hx (rnum_any x wr hx64)
      have hnl := numL_len hx64
      have hll : l.length ≤ 22000 := by
        have h1 := accL_len wd (ns := ns.take i) (fun m hm => H64.out m (List.mem_of_mem_take hm))
        rw [← HL.out, List.length_take] at h1
        have := HN.out
        omega
      have HS := hx (show l ++ [32] ++ numL x = accL wd (ns.take (i + 1)) by
        obtain ⟨h1, rfl⟩ := List.getElem?_eq_some_iff.1 hxx
        rw [List.take_succ_eq_append_getElem h1, accL_snoc, HL.out]
        simp)
      have HLT := hx hlt
      generalize hm : numL x = d at *
      clear hk hl2 hi hlt hxx hm
      go_wp2_with (go_at_call 11; refine HNU.out.mono ?_; rintro e w1 ⟨rfl, hk1⟩; have HK1 := hx (HK.out.trans0 hk1); clear hk1)
      go_roundw
      case rel => exact ⟨i + 1, _, HLT.out, by push_cast; rfl, by rw [show ({ data := #[32] } : ByteArray) = ⟨[32].toArray⟩ from rfl, txt_add, txt_add], HS.out, HK1.out⟩
      case measure =>
        simp only [intOf]
        have h := HLT.out
        omega
    · have hil : ¬ (i : Int) < (n : Int) := by omega
      have HE := hx (show l = accL wd ns by rw [HL.out, List.take_of_length_le (by have := HN.out; omega)])
      clear hk hl2 hi hlt
      go_wp2_with fail
      go_ret
      exact ⟨by rw [HE.out]; rfl, HK.out⟩
set_option maxRecDepth 100000 in
set_option maxHeartbeats 6400000 in
theorem line_any (wd : List UInt8) (ns : List Int) (a : Option Addr) (c : Nat) (w : World) (ha : Rw w a ns) (h64 : ∀ n, n ∈ ns → in64 n) (hw : wd.length ≤ 1000) (hl : ns.length ≤ 1000) :
    Calls Tryd.prog 27 #[txt wd, .slice a ns.length c] w fun e w' => e = .returned (txt (accL wd ns)) ∧ Kept [] w w' := by
  have HA := hx ha
  have H64 := hx h64
  have HWL := hx (And.intro hw hl)
  clear ha h64
  generalize hn : ns.length = n at *
  have HN := hx hn
  clear hn
  go_enter Tryd.func27, Tryd.ntmps27
  go_wp2_with fail
  go_loopw [5, 11] (fun sv iv wr => ∃ (i : Nat) (l : List UInt8), i ≤ n ∧ iv = .int .i64 (i : Int) ∧ sv = txt l ∧ l = accL wd (ns.take i) ∧ Kept [] w wr) (fun _ iv _ => n - (intOf iv).toNat)
  case atStart => exact ⟨0, wd, Nat.zero_le _, rfl, rfl, by simp [accL], Kept.refl _ _⟩
  case round =>
    obtain ⟨i, l, hi, rfl, rfl, hl2, hk⟩ := hrel
    have HK := hx hk
    have HL := hx hl2
    have HI := hx hi
    by_cases hlt : i < n
    · have hil : (i : Int) < (n : Int) := by omega
      obtain ⟨x, hxx⟩ : ∃ x, ns[i]? = some x := ⟨_, List.getElem?_eq_getElem (by have := HN.out; omega)⟩
      obtain ⟨g, o, rfl, hc⟩ := HA.out.kept hk i x hxx
      have hx64 : in64 x := H64.out x (List.mem_of_getElem? hxx)
      have HNU := hx (num_any x wr hx64)
      have hnl := numL_len hx64
      have hll : l.length ≤ 22000 := by
        have h1 := accL_len wd (ns := ns.take i) (fun m hm => H64.out m (List.mem_of_mem_take hm))
        rw [← HL.out, List.length_take] at h1
        have := HN.out
        omega
      have HS := hx (show l ++ ([32] ++ numL x) = accL wd (ns.take (i + 1)) by
        obtain ⟨h1, rfl⟩ := List.getElem?_eq_some_iff.1 hxx
        rw [List.take_succ_eq_append_getElem h1, accL_snoc, HL.out]
        simp)
      have HLT := hx hlt
      generalize hm : numL x = d at *
      clear hk hl2 hi hlt hxx hm
      go_wp2_with (go_at_call 9; refine HNU.out.mono ?_; rintro e w1 ⟨rfl, hk1⟩; have HK1 := hx (HK.out.trans0 hk1); clear hk1)
      go_roundw
      case rel => exact ⟨i + 1, _, HLT.out, by push_cast; rfl, by rw [show ({ data := #[32] } : ByteArray) = ⟨[32].toArray⟩ from rfl, txt_add, txt_add], HS.out, HK1.out⟩
      case measure =>
        simp only [intOf]
        have h := HLT.out
        omega
    · have hil : ¬ (i : Int) < (n : Int) := by omega
      have HE := hx (show l = accL wd ns by rw [HL.out, List.take_of_length_le (by have := HN.out; omega)])
      clear hk hl2 hi hlt
      go_wp2_with fail
      go_ret
      exact ⟨by rw [HE.out]; rfl, HK.out⟩
end Go.Proofs.YtdfbofkdlgfblaaDoor
