import Derived.Test.YtpedenaaiinakaaWireM
import Derived.Test.YtpedenaaiinakaaWireK
namespace Go.Proofs.Ytpedenaaiinakaa
open Go Go.RowKit
theorem Bts.ne_blk {w : World} {b off len cap r : Nat} {l : List UInt8} {xs : List Value} {T : TypeId} (h : Bts w (Option.some ⟨b, off, none⟩) len cap l) (hl : 0 < l.length) (hb : Blk w r xs T) (hx : ∀ v ∈ xs, ∀ n, v ≠ .int .u8 n) : b ≠ r := by
  rintro rfl
  have h0 := h.at 0 hl
  unfold Blk at hb
  simp [World.cell?, hb] at h0
  exact hx _ (List.mem_of_getElem? h0) _ rfl
theorem Bts.kept1 {w w' : World} {r : Nat} {a : Option Addr} {len cap : Nat} {l : List UInt8} (h : Bts w a len cap l) (hk : Kept [r] w w') (hne : ∀ b off, a = Option.some ⟨b, off, none⟩ → 0 < l.length → b ≠ r) : Bts w' a len cap l :=
  ⟨h.hlen, h.hle, h.htop, h.hnil, fun i hi => by
    obtain ⟨b, off, h1, h2⟩ := h.hcell i hi
    refine ⟨b, off, h1, ?_⟩
    rw [hk.cell (p := ⟨b, off + i, none⟩) (block_lt_of_cell h2) (by simp; exact hne b off h1 (by omega))]
    exact h2⟩
/-- What a reader has still to read. -/
def Rdr (w : World) (r : Nat) (l : List UInt8) : Prop := ∃ a c, Blk w r [.slice a l.length c] 69 ∧ Bts w a l.length c l
theorem Bts.drop' {w : World} {b off len cap : Nat} {l : List UInt8} (h : Bts w (Option.some ⟨b, off, none⟩) len cap l) (n : Nat) (hn : n ≤ l.length) : Bts w (Option.some ⟨b, if n = cap then off else off + n, none⟩) (len - n) (cap - n) (l.drop n) := by
  by_cases hc : n = cap
  · have hle := h.hle
    have hlen := h.hlen
    have htop := h.htop
    refine ⟨by rw [List.length_drop, hlen], by omega, by omega, fun e => by simp at e, fun i hi => ?_⟩
    simp at hi
    omega
  · rw [if_neg hc]; exact h.drop n hn
theorem rdr_new {w : World} {r b off c n : Nat} {l : List UInt8} {v : Value} (hb : Blk w r [v] 69) (hl : Bts w (some ⟨b, off, none⟩) l.length c l) (hn : n ≤ l.length) (hne : b ≠ r) (o2 k2 : Nat) (h1 : o2 = if n = c then off else off + n) (h2 : k2 = c - n) :
    Rdr (w.setCell ⟨r, 0, none⟩ (.slice (some ⟨b, o2, none⟩) (l.length - n) k2)) r (l.drop n) := by
  subst h1 h2
  have hd := hl.drop' n hn
  refine ⟨some ⟨b, if n = c then off else off + n, none⟩, c - n, ?_, ?_⟩
  · rw [List.length_drop]; exact hb.set 0 _
  · have := Bts.kept1 (r := r) hd ((Kept.refl [r] w).setCell (p := ⟨r, 0, none⟩) (.inl (by simp)) (.slice (some ⟨b, if n = c then off else off + n, none⟩) (l.length - n) (c - n))) (by intro b' off' h _; simp at h; rw [← h.1]; exact hne)
    rw [List.length_drop]; exact this
set_option maxHeartbeats 400000 in
theorem take_any (r : Nat) (l : List UInt8) (n : Nat) (N : Int) (x : Nat) (w : World) (h : Rdr w r l) (hn : n ≤ l.length) (h8 : n ≤ 8) (h1 : 1 ≤ n) (hN : N = (n : Int)) (hx : beg (l.take n) = x) :
    Calls Try.prog 33 #[.pointer (some ⟨r, 0, none⟩), .int .i64 N] w fun e w' => e = .returned (.int .u64 (x : Nat)) ∧ Rdr w' r (l.drop n) ∧ Kept [r] w w' := by
  subst hN
  obtain ⟨a, c, hb, hl⟩ := h
  have hle := hl.hle
  have htop := hl.htop
  unfold maxLen at htop
  obtain ⟨b, off, rfl⟩ := hl.some (by omega)
  have hne := hl.ne_blk (by omega) hb (by intro v hv; simp at hv; subst hv; simp)
  have hc := hb.cell (i := 0) rfl
  have hf := hb.free 0
  have hi1 : (n : Int) ≤ (c : Int) := by omega
  have hi2 : (n : Int) ≤ (l.length : Int) := by omega
  have hx' := Lib.hid hx
  have hl' := Lib.hid hl
  have hb' := Lib.hid hb
  have hR := Lib.hid (fun o2 k2 => rdr_new hb hl hn hne o2 k2)
  clear hx hl hb hne
  go_enter Try.func33, Try.ntmps33
  go_wp2_with fail
  refine (get_x _ _ _ (l.take n) x _ (hl'.out.take n hn) (by simp; omega) hx'.out).mono ?_
  rintro e w' ⟨rfl, rfl⟩
  go_wp2
  all_goals
    go_ret
    exact ⟨rfl, hR.out _ _ (by split <;> omega) (by omega), (Kept.refl _ _).setCell (.inl (by simp)) _⟩
end Go.Proofs.Ytpedenaaiinakaa
