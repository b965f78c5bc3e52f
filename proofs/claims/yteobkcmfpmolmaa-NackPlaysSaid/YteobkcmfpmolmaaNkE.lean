/- nack: Tick's walk. -/
import Derived.Test.YteobkcmfpmolmaaNkD
namespace Go.Proofs.Yteobkcmfpmolmaa
open Go Go.RowKit Go.Shelf
variable {w w' : World} {p q mb n : Nat} {v v' : Value} {room now now' no no' asked full : Int} {h h' : List En} {f f' : Int → Int}
/-- The loop's state behind i keys. -/
def RunN (w wr : World) (p q mb n : Nat) (v : Value) (room now asked full t : Int) (l : List Int) (x : St) (i : Nat) : Prop :=
  ∃ vv nn, KeptK w wr p q mb v vv ∧ nn ≤ n + i ∧ Nk wr p q mb nn vv room now (manyN t now (l.take i) x).2.2 (asked + i) full (manyN t now (l.take i) x).1 (manyN t now (l.take i) x).2.1
/-- What a key that has come may rely on. -/
structure ComeN (room now t : Int) (l : List Int) (x : St) (i : Nat) (k : Int) (X : St) : Prop where
  key : keyAt k X.1 = none
  wf : (Lit.int .u32 k).wf = true
  len : X.1.length < room
  len1 : X.1.length ≤ 1000000
  no0 : 0 ≤ X.2.2
  no1 : X.2.2 ≤ 1000000000
  tries : ∀ j, 0 ≤ X.2.1 j ∧ X.2.1 j ≤ 5
  next : manyN t now (l.take (i + 1)) x = stepN t now X k
theorem comeN {s : List En} {f : Int → Int} {no now room t : Int} {d : Nat} (hk : s.Pairwise (fun x y => x.key ≠ y.key)) (hw : ∀ x, x ∈ s → (Lit.int .u32 x.key).wf = true) (hl : s.length ≤ 64) (hr : (s.length : Int) ≤ room) (hd : d ≤ s.length) (h0 : 0 ≤ no) (h1 : no ≤ 900000000) (hf : ∀ j, 0 ≤ f j ∧ f j ≤ 5) (i : Nat) (hi : i < d) :
    ComeN room now t ((s.take d).map (·.key)) (s.drop d, f, no) i (((s.take d).map (·.key)).getD i 0) (manyN t now (((s.take d).map (·.key)).take i) (s.drop d, f, no)) := by
  have hll : ((s.take d).map (·.key)).length = d := by simp; omega
  have hit : (((s.take d).map (·.key)).take i).length = i := by rw [List.length_take]; omega
  have hlen := manyN_len t now (((s.take d).map (·.key)).take i) (s.drop d, f, no)
  have hno := manyN_no t now (((s.take d).map (·.key)).take i) (s.drop d, f, no)
  rw [hit] at hlen hno
  simp only [List.length_drop] at hlen
  refine ⟨come_none hk t now d i hi hd f no, ?_, by omega, by omega, by simp only at hno; omega, by simp only at hno; omega, manyN_tries t now _ _ hf, ?_⟩
  · have hil : i < ((s.take d).map (·.key)).length := by omega
    rw [← List.getElem_eq_getD (h := hil)]
    have hm := List.getElem_mem hil
    rw [List.mem_map] at hm
    obtain ⟨x, hx, e⟩ := hm
    rw [← e]
    exact hw x (List.mem_of_mem_take hx)
  · have hil : i < ((s.take d).map (·.key)).length := by omega
    rw [← List.getElem_eq_getD (h := hil), ← manyN_snoc]
    congr 1
    rw [List.take_add_one, List.getElem?_eq_getElem hil, Option.toList_some]
end Go.Proofs.Yteobkcmfpmolmaa
