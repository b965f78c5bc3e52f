/- A slice of bytes, as a list. -/
import Derived.Test.YtgdofgckjkmhjaaMem
import Derived.Laws.MakeOwn
import Derived.Laws.CopyOwn
namespace Go.Proofs.Ytgdofgckjkmhjaa
open Go Go.RowKit

def bv (b : UInt8) : Value := .int .u8 (b.toNat : Int)

/-- The slice v reads as the bytes l. -/
structure Bts (w : World) (a : Option Addr) (len cap : Nat) (l : List UInt8) : Prop where
  hlen : len = l.length
  hle : len ≤ cap
  htop : cap ≤ maxLen
  hnil : a = none → cap = 0
  hcell : ∀ i (h : i < l.length), ∃ b off, a = some ⟨b, off, none⟩ ∧ w.cell? ⟨b, off + i, none⟩ = some (.int .u8 (l[i].toNat : Int))

theorem Bts.some {w : World} {a : Option Addr} {len cap : Nat} {l : List UInt8} (h : Bts w a len cap l) (hl : 0 < l.length) : ∃ b off, a = some ⟨b, off, none⟩ := by
  obtain ⟨b, off, h1, _⟩ := h.hcell 0 hl
  exact ⟨b, off, h1⟩
theorem Bts.at {w : World} {b off len cap : Nat} {l : List UInt8} (h : Bts w (Option.some ⟨b, off, none⟩) len cap l) (i : Nat) (hi : i < l.length) : w.cell? ⟨b, off + i, none⟩ = Option.some (.int .u8 (l[i].toNat : Int)) := by
  obtain ⟨b', off', h1, h2⟩ := h.hcell i hi
  simp only [Option.some.injEq, Addr.mk.injEq] at h1
  obtain ⟨rfl, rfl, _⟩ := h1
  exact h2
theorem Bts.same {w w' : World} {a : Option Addr} {len cap : Nat} {l : List UInt8} (h : Bts w a len cap l) (hc : ∀ p : Addr, p.block < w.heap.size → w'.cell? p = w.cell? p) : Bts w' a len cap l :=
  ⟨h.hlen, h.hle, h.htop, h.hnil, fun i hi => by
    obtain ⟨b, off, h1, h2⟩ := h.hcell i hi
    refine ⟨b, off, h1, ?_⟩
    rw [hc _ ?_]; exact h2
    show b < w.heap.size
    unfold World.cell? at h2
    rcases Nat.lt_or_ge b w.heap.size with h' | h'
    · exact h'
    · simp [Array.getElem?_eq_none h'] at h2⟩
theorem Bts.kept {w w' : World} {a : Option Addr} {len cap : Nat} {l : List UInt8} (h : Bts w a len cap l) (hk : Kept [] w w') : Bts w' a len cap l :=
  h.same fun p hp => hk.cell hp (by simp)
theorem Bts.drew {w : World} {a : Option Addr} {len cap : Nat} {l : List UInt8} (h : Bts w a len cap l) : Bts w.drew a len cap l := h.kept (Kept.refl _ _).drew
theorem Bts.drewN {w : World} {a : Option Addr} {len cap : Nat} {l : List UInt8} (h : Bts w a len cap l) (n : Nat) : Bts (w.drewN n) a len cap l := h.kept ((Kept.refl _ _).drewN n)
theorem Bts.take {w : World} {a : Option Addr} {len cap : Nat} {l : List UInt8} (h : Bts w a len cap l) (n : Nat) (hn : n ≤ l.length) : Bts w a n cap (l.take n) :=
  ⟨by simp; omega, by have := h.hle; have := h.hlen; omega, h.htop, h.hnil, fun i hi => by
    have hi' : i < n := by simp at hi; omega
    obtain ⟨b, off, h1, h2⟩ := h.hcell i (by omega)
    exact ⟨b, off, h1, by rw [h2]; simp⟩⟩
theorem Bts.ofBlk {w : World} {b off cap : Nat} {xs : List Value} {T : TypeId} (h : Blk w b xs T) {l : List UInt8} (hl : l.length ≤ cap) (ht : cap ≤ maxLen) (hx : ∀ i (h : i < l.length), xs[off + i]? = Option.some (Value.int .u8 (l[i].toNat : Int))) :
    Bts w (Option.some ⟨b, off, none⟩) l.length cap l :=
  ⟨rfl, hl, ht, fun h => by simp at h, fun i hi => ⟨b, off, rfl, h.cell (hx i hi)⟩⟩
theorem take_fold {α : Type} (f : α → UInt8 → α) (l : List UInt8) (k : Nat) (h : k < l.length) (a : α) : (l.take (k + 1)).foldl f a = f ((l.take k).foldl f a) l[k] := by
  rw [List.take_succ_eq_append_getElem h, List.foldl_append]; rfl

/-- What the call owns reads as bytes. -/
theorem Bts.own {w : World} {base n : Nat} {v : Value} {T : TypeId} {l : List UInt8} (h : w.ownsRow base T 1 v n (l.map bv)) : ∃ a cap, v = .slice a n cap ∧ Bts w a n cap l := by
  obtain ⟨h1, h2⟩ := h
  simp at h1
  rcases h2 with ⟨rfl, rfl⟩ | ⟨g, cap, cur, rfl, hb, hg, hn, hc, hs, ht⟩
  · exact ⟨none, 0, rfl, h1.symm, Nat.le_refl _, by unfold maxLen; omega, fun _ => rfl, fun i hi => by omega⟩
  · refine ⟨_, cap, rfl, h1.symm, hn, hc, fun h => by simp at h, fun i hi => ⟨g, 0, rfl, ?_⟩⟩
    have hx : (cur.toList.take (n * 1))[i]? = Option.some (Value.int .u8 (l[i].toNat : Int)) := by
      rw [ht]; simp [hi, bv]
    rw [List.getElem?_take_of_lt (by omega)] at hx
    simp at hx
    simp [World.cell?, hg, hx]
theorem own_blk {w : World} {base : Nat} {T : TypeId} {b : Nat} {xs : List Value} (h : Blk w b xs T) (hb : base ≤ b) (hm : xs.length ≤ maxLen) : w.ownsRow base T 1 (.slice (Option.some ⟨b, 0, none⟩) xs.length xs.length) xs.length xs :=
  ⟨by simp, .inr ⟨b, xs.length, xs.toArray, rfl, hb, h, Nat.le_refl _, hm, by simp, by simp⟩⟩
theorem own_down {w : World} {b b' n : Nat} {v : Value} {T : TypeId} {xs : List Value} (h : w.ownsRow b T 1 v n xs) (hb : b' ≤ b) : w.ownsRow b' T 1 v n xs := by
  obtain ⟨h1, h2⟩ := h
  refine ⟨h1, ?_⟩
  rcases h2 with h2 | ⟨g, cap, cur, hv, hg, r⟩
  · exact .inl h2
  · exact .inr ⟨g, cap, cur, hv, Nat.le_trans hb hg, r⟩
theorem own_empty {w : World} {base g : Nat} {T : TypeId} (hg : g = w.heap.size) (h : base ≤ w.heap.size) : (w.alloc (.cells #[] T)).ownsRow base T 1 (.slice (Option.some ⟨g, 0, none⟩) 0 0) 0 [] := by
  subst hg
  exact own_blk (xs := []) (Blk.new' w #[] T) h (Nat.zero_le _)

theorem bts_of {w : World} {a : Option Addr} {len cap : Nat} {zs : List Int}
    (h : (a = none ∧ len = 0 ∧ cap = 0 ∧ zs = []) ∨ ∃ x, a = Option.some x ∧ len ≤ cap ∧ cap ≤ maxLen ∧ zs.length = cap ∧ (∀ i, i < zs.length → w.cell? (x.add i) = Option.some (.int .u8 (zs.getD i 0))) ∧ ∀ n ∈ zs, (Lit.int .u8 n).wf = true) :
    ∃ l, Bts w a len cap l := by
  rcases h with ⟨rfl, rfl, rfl, rfl⟩ | ⟨x, rfl, hl, hm, hz, hc, hw⟩
  · exact ⟨[], rfl, Nat.le_refl _, Nat.zero_le _, fun _ => rfl, fun i hi => by simp at hi⟩
  · refine ⟨(zs.take len).map fun z => UInt8.ofNat z.toNat, ?_, hl, hm, fun h => by simp at h, fun i hi => ?_⟩
    · simp; omega
    · simp at hi
      have h1 := hc i (by omega)
      have hs : x.spot = none := by
        have h4 := World.cell?_spot (hc 0 (by omega))
        simpa [Addr.add] using h4
      obtain ⟨b, off, spot⟩ := x
      simp at hs
      subst hs
      refine ⟨b, off, rfl, ?_⟩
      have h2 : w.cell? ⟨b, off + i, none⟩ = Option.some (.int .u8 (zs.getD i 0)) := by
        rcases Nat.eq_zero_or_pos i with rfl | h0
        · simpa [Addr.add] using h1
        · simpa [Addr.add, show i ≠ 0 by omega] using h1
      rw [h2]
      have hi2 : i < zs.length := by omega
      have h3 := hw zs[i] (List.getElem_mem _)
      simp [Lit.wf, IntKind.min, IntKind.max, IntKind.signed, IntKind.bits] at h3
      simp [List.getD, hi2]
      omega
theorem nat_u32 {a : Int} (h : (Lit.int .u32 a).wf = true) : ∃ n : Nat, a = n ∧ n < 4294967296 := by
  simp [Lit.wf, IntKind.min, IntKind.max, IntKind.signed, IntKind.bits] at h
  exact ⟨a.toNat, by omega, by omega⟩
theorem nat_u16 {a : Int} (h : (Lit.int .u16 a).wf = true) : ∃ n : Nat, a = n ∧ n < 65536 := by
  simp [Lit.wf, IntKind.min, IntKind.max, IntKind.signed, IntKind.bits] at h
  exact ⟨a.toNat, by omega, by omega⟩
theorem nat_u8 {a : Int} (h : (Lit.int .u8 a).wf = true) : ∃ n : Nat, a = n ∧ n < 256 := by
  simp [Lit.wf, IntKind.min, IntKind.max, IntKind.signed, IntKind.bits] at h
  exact ⟨a.toNat, by omega, by omega⟩
theorem int_i64 {a : Int} (h : (Lit.int .i64 a).wf = true) : -9223372036854775808 ≤ a ∧ a ≤ 9223372036854775807 := by
  simp [Lit.wf, IntKind.min, IntKind.max, IntKind.signed, IntKind.bits] at h
  omega
theorem own_get {w : World} {base n : Nat} {v : Value} {T : TypeId} {xs : List Value} (h : w.ownsRow base T 1 v n xs) (hn : 0 < n) : ∃ g cap rest, v = .slice (Option.some ⟨g, 0, none⟩) n cap ∧ base ≤ g ∧ n ≤ cap ∧ cap ≤ maxLen ∧ Blk w g (xs ++ rest) T ∧ xs.length = n ∧ (xs ++ rest).length = cap := by
  obtain ⟨h1, h2⟩ := h
  rcases h2 with ⟨rfl, rfl⟩ | ⟨g, cap, cur, rfl, hb, hg, hn2, hc, hs, ht⟩
  · omega
  · refine ⟨g, cap, cur.toList.drop n, rfl, hb, hn2, hc, ?_, by omega, ?_⟩
    · unfold Blk
      have e : xs ++ cur.toList.drop n = cur.toList := by rw [← ht, Nat.mul_one, List.take_append_drop]
      rw [e]; exact hg
    · have e : xs ++ cur.toList.drop n = cur.toList := by rw [← ht, Nat.mul_one, List.take_append_drop]
      rw [e]; simpa using hs
theorem bts_blk {w : World} {g cap : Nat} {l : List UInt8} {rest : List Value} {T : TypeId} (h : Blk w g (l.map bv ++ rest) T) (hl : l.length ≤ cap) (ht : cap ≤ maxLen) : Bts w (Option.some ⟨g, 0, none⟩) l.length cap l :=
  Bts.ofBlk h hl ht (fun i hi => by rw [Nat.zero_add, List.getElem?_append_left (by simpa using hi)]; simp [hi, bv])
end Go.Proofs.Ytgdofgckjkmhjaa
