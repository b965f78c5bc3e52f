/- The law's comparison of acts. -/
import Derived.Test.YtdfbofkdlgfblaaDoorSeL
import Derived.BigQuiet
namespace Go.Proofs.YtdfbofkdlgfblaaDoor
open Go Go.RowKit
theorem AcR.cells {w : World} {a : Option Addr} {xs : List (List Int)} (h : AcR w a xs) {i : Nat} {k p q r s t : Int} (hx : xs[i]? = some [k, p, q, r, s, t]) {g o : Nat} (ha : a = some ⟨g, o, none⟩) :
    w.cell? ⟨g, o + i * 6, none⟩ = some (.int .i64 k) ∧ w.cell? ⟨g, o + i * 6 + 1, none⟩ = some (.int .i64 p) ∧ w.cell? ⟨g, o + i * 6 + 2, none⟩ = some (.int .i64 q) ∧ w.cell? ⟨g, o + i * 6 + 3, none⟩ = some (.int .i64 r) ∧ w.cell? ⟨g, o + i * 6 + 4, none⟩ = some (.int .i64 s) ∧ w.cell? ⟨g, o + i * 6 + 5, none⟩ = some (.int .i64 t) := by
  obtain ⟨g2, o2, ha2, _, hr⟩ := h.at_ i _ hx
  rw [ha] at ha2
  simp only [Option.some.injEq, Addr.mk.injEq, and_true] at ha2
  obtain ⟨rfl, rfl⟩ := ha2
  exact ⟨hr 0 _ rfl, hr 1 _ rfl, hr 2 _ rfl, hr 3 _ rfl, hr 4 _ rfl, hr 5 _ rfl⟩
theorem AcR.addr {w : World} {a : Option Addr} {xs : List (List Int)} (h : AcR w a xs) (hn : 0 < xs.length) : ∃ g o, a = some ⟨g, o, none⟩ := by
  obtain ⟨g, o, ha, _⟩ := h.at_ 0 _ (List.getElem?_eq_getElem hn)
  exact ⟨g, o, ha⟩
set_option maxRecDepth 100000 in
set_option maxHeartbeats 12800000 in
theorem same_any (a b : Option Addr) (c d : Nat) (xs : List (List Int)) (w : World) (ha : AcR w a xs) (hb : AcR w b xs) (hn : xs.length ≤ 5000) :
    Calls Tryd.prog 22 #[.slice a xs.length c, .slice b xs.length d] w fun e w' => e = .returned (.bool true) ∧ Kept [] w w' := by
  by_cases h0 : xs.length = 0
  · rw [h0]
    clear ha hb hn
    go_enter Tryd.func22, Tryd.ntmps22
    go_wp2_with fail
    go_loopw [5] (fun iv wr => iv = .int .i64 0 ∧ wr = w) (fun _ _ => 0)
    case atStart => exact ⟨rfl, rfl⟩
    case round =>
      obtain ⟨rfl, rfl⟩ := hrel
      go_wp2_with fail
      go_ret
      exact ⟨rfl, Kept.refl _ _⟩
  · obtain ⟨g, o, rfl⟩ := ha.addr (by omega)
    obtain ⟨g2, o2, rfl⟩ := hb.addr (by omega)
    have HA := hx ha
    have HB := hx hb
    generalize hm : xs.length = n at *
    have HN := hx hm
    clear ha hb hm
    go_enter Tryd.func22, Tryd.ntmps22
    go_wp2_with fail
    go_loopw [5] (fun iv wr => ∃ i : Nat, iv = .int .i64 (i : Int) ∧ i ≤ n ∧ Kept [] w wr) (fun iv _ => n - (intOf iv).toNat)
    case atStart => exact ⟨0, rfl, Nat.zero_le _, Kept.refl _ _⟩
    case round =>
      obtain ⟨i, rfl, hi, hk⟩ := hrel
      have HK := hx hk
      clear hk
      by_cases hlt : i < n
      · have hil : (i : Int) < (n : Int) := by omega
        obtain ⟨x, hxx⟩ : ∃ x, xs[i]? = some x := ⟨_, List.getElem?_eq_getElem (by have := HN.out; omega)⟩
        obtain ⟨k, p, q, r, s, t, rfl⟩ := six (HA.out.six x (List.mem_of_getElem? hxx)).1
        obtain ⟨a0, a1, a2, a3, a4, a5⟩ := (HA.out.kept HK.out).cells hxx rfl
        obtain ⟨b0, b1, b2, b3, b4, b5⟩ := (HB.out.kept HK.out).cells hxx rfl
        have HI := hx hlt
        clear hxx hlt hi h0
        go_upto_region 6 with fail
        go_quiet (fail)
        go_wp2_with fail
        go_roundw
        case rel => exact ⟨i + 1, by push_cast; rfl, HI.out, HK.out.trans0 (Kept.drewN (Kept.refl [] _) _)⟩
        case measure =>
          simp only [intOf]
          have h := HI.out
          omega
      · have hil : ¬ (i : Int) < (n : Int) := by omega
        clear h0 hi hlt
        go_wp2_with fail
        go_ret
        exact ⟨rfl, HK.out⟩
end Go.Proofs.YtdfbofkdlgfblaaDoor
