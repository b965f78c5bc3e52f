import Derived.Test.YtgdofgckjkmhjaaMem
namespace Go.Proofs.Ytgdofgckjkmhjaa
open Go Go.RowKit
/-- The cells cs lie in the row xs from o on. -/
def Part (xs : List Value) (o : Nat) (cs : List Value) : Prop := o + cs.length ≤ xs.length ∧ ∀ k, k < cs.length → xs[o + k]? = cs[k]?
theorem Part.self {xs : List Value} {o : Nat} {cs : List Value} (h : Part xs o cs) : setAll xs o cs = xs := by
  apply List.ext_getElem?
  intro i
  rw [setAll_get _ _ _ h.1]
  by_cases hi : o ≤ i ∧ i < o + cs.length
  · rw [if_pos hi, ← h.2 (i - o) (by omega), show o + (i - o) = i by omega]
  · rw [if_neg hi]
theorem Part.set {xs : List Value} {o : Nat} {cs : List Value} (h : Part xs o cs) (k : Nat) (v : Value) : Part (xs.set (o + k) v) o (cs.set k v) := by
  refine ⟨by simpa using h.1, fun j hj => ?_⟩
  simp only [List.length_set] at hj
  have h1 := h.1
  rw [List.getElem?_set, List.getElem?_set]
  by_cases e : k = j
  · subst e
    rw [if_pos rfl, if_pos rfl, if_pos (by omega), if_pos (by omega)]
  · rw [if_neg (by omega), if_neg e]
    exact h.2 j hj
theorem setAll_set {xs : List Value} {o k : Nat} {v : Value} {ds : List Value} (h : o + ds.length ≤ xs.length) (hk : k < ds.length) : setAll (xs.set (o + k) v) o ds = setAll xs o ds := by
  apply List.ext_getElem?
  intro i
  rw [setAll_get _ _ _ (by simpa using h), setAll_get _ _ _ h]
  by_cases hi : o ≤ i ∧ i < o + ds.length
  · rw [if_pos hi, if_pos hi]
  · rw [if_neg hi, if_neg hi, List.getElem?_set, if_neg (by omega)]
theorem Part.setAll {xs : List Value} {o : Nat} {cs : List Value} (h : Part xs o cs) (ds : List Value) (hl : ds.length = cs.length) : Part (setAll xs o ds) o ds := by
  have h1 := h.1
  refine ⟨by rw [setAll_len]; omega, fun k hk => ?_⟩
  rw [setAll_get _ _ _ (by omega), if_pos (by omega), show o + k - o = k by omega]
theorem setAll_twice {xs : List Value} {o : Nat} {ds es : List Value} (h : o + ds.length ≤ xs.length) (hl : es.length = ds.length) : setAll (setAll xs o ds) o es = setAll xs o es := by
  apply List.ext_getElem?
  intro i
  rw [setAll_get (Go.Proofs.Ytgdofgckjkmhjaa.setAll xs o ds) o es (by rw [setAll_len]; omega), setAll_get xs o es (by omega), setAll_get xs o ds h]
  by_cases hi : o ≤ i ∧ i < o + es.length
  · rw [if_pos hi, if_pos hi]
  · rw [if_neg hi, if_neg hi, if_neg (by omega)]
theorem Blk.part {w : World} {b o : Nat} {xs cs : List Value} {T : TypeId} (h : Blk w b xs T) (hp : Part xs o cs) (k : Nat) (v : Value) (hv : cs[k]? = some v) : w.cell? ⟨b, o + k, none⟩ = some v :=
  h.cell (by rw [hp.2 k (List.getElem?_eq_some_iff.1 hv).1]; exact hv)
/-- One cell of a part is laid anew. -/
theorem Blk.setp {w : World} {b o : Nat} {xs cs ds : List Value} {T : TypeId} (h : Blk w b (setAll xs o ds) T) (hp : Part xs o cs) (hl : ds.length = cs.length) (k : Nat) (v : Value) (hk : k < ds.length) : Blk (w.setCell ⟨b, o + k, none⟩ v) b (setAll xs o (ds.set k v)) T := by
  have h1 := hp.1
  have hq := hp.setAll ds hl
  have hs := h.set (o + k) v
  have he := (hq.set k v).self
  rw [setAll_set (by rw [setAll_len, List.length_set]; omega) (by simpa using hk), setAll_twice (by omega) (by simp)] at he
  rw [he]
  exact hs
end Go.Proofs.Ytgdofgckjkmhjaa
