import Derived.Test.YtgdofgckjkmhjaaPathL
namespace Go.Proofs.Ytgdofgckjkmhjaa
open Go Go.RowKit
def mkc (bits : Nat) : List Value := tab 64 fun i => .bool (bits.testBit i)
def rsc (s : Sn) : List Value := [.bool s.any, .int .u32 s.top] ++ mkc s.bits ++ [.int .i64 s.came, .int .i64 s.twice, .int .i64 s.lost]
theorem mkc_len (bits : Nat) : (mkc bits).length = 64 := tab_len _ _
theorem rsc_len (s : Sn) : (rsc s).length = 69 := by simp [rsc, mkc_len]
theorem rsc_mark (s : Sn) (i : Nat) (hi : i < 64) : (rsc s)[2 + i]? = some (.bool (s.bits.testBit i)) := by
  unfold rsc
  rw [List.getElem?_append_left (by simp [mkc_len]; omega), List.getElem?_append_right (by simp)]
  simp only [List.length_cons, List.length_nil]
  rw [show 2 + i - (0 + 1 + 1) = i by omega]
  exact tab_get hi
theorem rsc_tail (s : Sn) (j : Nat) (hj : j < 3) : (rsc s)[66 + j]? = [.int .i64 s.came, .int .i64 s.twice, .int .i64 s.lost][j]? := by
  unfold rsc
  rw [List.getElem?_append_right (by simp [mkc_len])]
  simp only [List.length_append, List.length_cons, List.length_nil, mkc_len]
  rw [show 66 + j - (0 + 1 + 1 + 64) = j by omega]
theorem mkc_set (bits k : Nat) (hk : k < 64) : (mkc bits).set k (.bool true) = mkc (setB bits k) := by
  refine tab_set hk (by rw [setB_bit]; simp) (fun i hi hne => ?_)
  rw [setB_bit]
  simp [show ¬ k = i from fun e => hne e.symm]
theorem rsc_set (s : Sn) (k : Nat) (hk : k < 64) : (rsc s).set (2 + k) (.bool true) = rsc { s with bits := setB s.bits k } := by
  unfold rsc
  rw [List.append_assoc, List.append_assoc, List.set_append_right _ _ (by simp), List.set_append_left _ _ (by simp [mkc_len]; omega)]
  simp only [List.length_cons, List.length_nil]
  rw [show 2 + k - (0 + 1 + 1) = k by omega, mkc_set _ _ hk]
theorem rsc_set0 (s : Sn) (v : Bool) : (rsc s).set 0 (.bool v) = rsc { s with any := v } := by simp [rsc]
theorem rsc_set1 (s : Sn) (n : Nat) : (rsc s).set 1 (.int .u32 n) = rsc { s with top := n } := by simp [rsc]
theorem rsc_setT (s : Sn) (j : Nat) (v : Value) : (rsc s).set (66 + j) v = [.bool s.any, .int .u32 s.top] ++ mkc s.bits ++ ([.int .i64 s.came, .int .i64 s.twice, .int .i64 s.lost].set j v) := by
  unfold rsc
  rw [List.set_append_right _ _ (by simp [mkc_len])]
  simp only [List.length_append, List.length_cons, List.length_nil, mkc_len]
  rw [show 66 + j - (0 + 1 + 1 + 64) = j by omega]
theorem rsc_set66 (s : Sn) (v : Int) : (rsc s).set 66 (.int .i64 v) = rsc { s with came := v } := rsc_setT s 0 _
theorem rsc_set67 (s : Sn) (v : Int) : (rsc s).set 67 (.int .i64 v) = rsc { s with twice := v } := rsc_setT s 1 _
theorem rsc_set68 (s : Sn) (v : Int) : (rsc s).set 68 (.int .i64 v) = rsc { s with lost := v } := rsc_setT s 2 _
theorem rsc_new (n : Nat) : ((((rsc sn0).set 0 (.bool true)).set 1 (.int .u32 n)).set 66 (.int .i64 1)).set 2 (.bool true) = rsc ⟨true, n, 1, 1, 0, 0⟩ := by
  rw [rsc_set0, rsc_set1, rsc_set66]
  have h := rsc_set ⟨true, n, 0, 1, 0, 0⟩ 0 (by omega)
  have e : setB 0 0 = 1 := by decide
  simp only [e] at h
  exact h
theorem ret_blk2 {P : Program} {w : World} {fn : Func} {p q : Tmp} {ty : TypeId} (h : fn.results = #[.cell p ty, .tmp q]) (tmps : Array Value) (g : Nat) (T : TypeId) (xs : List Value) (v : Value) (d : TypeDesc)
    (hp : tmps.getD p undef = .pointer (some ⟨g, 0, none⟩)) (hq : tmps.getD q undef = v) (hb : Blk w g xs T)
    (hu : P.underlying ty = some d) (hd : (match d with | .struct _ | .array _ _ => true | _ => false) = true) (hi : (P.info? ty).map (·.size) = some xs.length) :
    (results fn tmps).run P w = .ok (.tuple #[.agg xs.toArray, v]) w := by
  have hp' : tmps[p]?.getD undef = .pointer (some ⟨g, 0, none⟩) := by simpa using hp
  have hq' : tmps[q]?.getD undef = v := by simpa using hq
  simp [results, h, hp', hq', asAddr, run_loadVar_row w g T ty xs.toArray (0, 0) d hb hu hd (by simpa using hi)]
theorem Kept.behind {w w2 w5 : World} {g : Nat} (h : Kept [] w w2) (h5 : Kept [g] w2 w5) (hg : w.heap.size ≤ g) : Kept [] w w5 :=
  h.trans h5 (fun _ h => h) (fun x h => by simp at h; subst h; exact .inr hg)
theorem rsc_one (s : Sn) : ∀ v ∈ rsc s, v.oneCell' = true := by
  intro v hv
  simp only [rsc, mkc, tab, List.mem_append, List.mem_cons, List.mem_map, List.not_mem_nil, or_false] at hv
  rcases hv with ((rfl | rfl) | ⟨i, _, rfl⟩) | rfl | rfl | rfl <;> rfl
end Go.Proofs.Ytgdofgckjkmhjaa
