import Derived.Test.YtgdofgckjkmhjaaPartL
namespace Go.Proofs.Ytgdofgckjkmhjaa
open Go Go.RowKit
/-! A part of a block loaded in a region that draws its order, or under a guard: the load as a function of the world. -/
def midOf (w : World) (b o n : Nat) : Array Value := match w.heap[b]? with | some (.cells c _ _) => ((c.toList.drop o).take n).toArray | _ => #[]
def hasMid (w : World) (b o n : Nat) : Bool := match w.heap[b]? with | some (.cells c _ _) => decide (o + n ≤ c.size) | _ => false
def goodMid (w : World) (n : Nat) : Value → Bool | .pointer (some ⟨b, o, none⟩) => hasMid w b o n | _ => false
def midAt (w : World) (n : Nat) : Value → Array Value | .pointer (some ⟨b, o, none⟩) => midOf w b o n | _ => #[]
theorem goodMid_at (w : World) (n b o : Nat) : goodMid w n (.pointer (some ⟨b, o, none⟩)) = hasMid w b o n := rfl
theorem midAt_at (w : World) (n b o : Nat) : midAt w n (.pointer (some ⟨b, o, none⟩)) = midOf w b o n := rfl
theorem Part.take {xs cs : List Value} {o : Nat} (h : Part xs o cs) : (xs.drop o).take cs.length = cs := by
  apply List.ext_getElem?
  intro i
  rw [List.getElem?_take]
  by_cases hi : i < cs.length
  · rw [if_pos hi, List.getElem?_drop]; exact h.2 i hi
  · rw [if_neg hi, List.getElem?_eq_none (by omega)]
theorem Blk.mid {w : World} {b o : Nat} {xs cs : List Value} {T : TypeId} (h : Blk w b xs T) (hp : Part xs o cs) : midOf w b o cs.length = cs.toArray := by
  unfold Blk at h; simp [midOf, h, hp.take]
theorem Blk.hasMid {w : World} {b o : Nat} {xs cs : List Value} {T : TypeId} (h : Blk w b xs T) (hp : Part xs o cs) : hasMid w b o cs.length = true := by
  have := hp.1
  unfold Blk at h; simp [Go.Proofs.Ytgdofgckjkmhjaa.hasMid, h, this]
theorem exec_mid {P : Program} {w : World} (ty : TypeId) (n : Nat) (d : TypeDesc) (hu : P.underlying ty = some d) (hd : d.isRow = true) (hi : (P.info? ty).map (·.size) = some n)
    (ev : Operand → Value) (o : Oper) (x : Operand) (ho : o.op = .load ty x) (h : goodMid w n (ev x) = true) :
    (execOp ev o).run P w = .ok (.value (.agg (midAt w n (ev x)))) w := by
  unfold execOp
  rw [ho]
  unfold goodMid at h
  split at h
  · rename_i b k hv
    unfold hasMid at h
    split at h
    · rename_i c t fr hc
      have hsz : k + n ≤ c.size := by simpa using h
      have hr : (Instr.loadAt ty (.pointer (some ⟨b, k, none⟩))).run P w = .ok (.agg ((c.toList.drop k).take n).toArray) w := by
        simp only [Instr.loadAt, Instr.sureAddr, Sem.run_bind, Sem.run_pure, Result.andThen_ok, run_loadVar_mid w b k ty ((c.toList.drop k).take n) d (fun j v hv => by
          have hj := (List.getElem?_eq_some_iff.1 hv).1
          simp only [List.length_take] at hj
          rw [List.getElem?_take, if_pos (by omega), List.getElem?_drop] at hv
          simp only [World.cell?, hc]; simpa using hv) hu hd (by rw [hi]; simp; omega)]
      simp only [hv, Sem.run_bind, hr, Result.andThen_ok, Sem.run_pure, midAt, midOf, hc]
    · cases h
  · cases h
end Go.Proofs.Ytgdofgckjkmhjaa
