import Derived.Test.YtgdofgckjkmhjaaPathY
namespace Go.Proofs.Ytgdofgckjkmhjaa
open Go Go.RowKit
def tl4 (p : Pa) : List Value := [.int .i64 p.quiet, .int .i64 p.probe, .int .i64 p.gap, .int .u32 p.next]
def rpc (p : Pa) : List Value := stc p.s ++ rsc p.seen ++ tl4 p
theorem rpc_len (p : Pa) : (rpc p).length = 78 := by simp [rpc, rsc_len, stc, tl4]
theorem rpc_tail (p : Pa) (j : Nat) (hj : j < 4) : (rpc p)[74 + j]? = (tl4 p)[j]? := by
  unfold rpc
  rw [List.getElem?_append_right (by simp [rsc_len, stc])]
  simp only [List.length_append, rsc_len]
  rw [show 74 + j - ((stc p.s).length + 69) = j by simp [stc]]
theorem rpc_setT (p : Pa) (j : Nat) (v : Value) : (rpc p).set (74 + j) v = stc p.s ++ rsc p.seen ++ (tl4 p).set j v := by
  unfold rpc
  rw [List.set_append_right _ _ (by simp [rsc_len, stc])]
  simp only [List.length_append, rsc_len]
  rw [show 74 + j - ((stc p.s).length + 69) = j by simp [stc]]
theorem rset_quiet (s : St) (sn : Sn) (q r g : Int) (n : Nat) (v : Int) : (rpc ⟨s, sn, q, r, g, n⟩).set 74 (.int .i64 v) = rpc ⟨s, sn, v, r, g, n⟩ := rpc_setT _ 0 _
theorem rset_probe (s : St) (sn : Sn) (q r g : Int) (n : Nat) (v : Int) : (rpc ⟨s, sn, q, r, g, n⟩).set 75 (.int .i64 v) = rpc ⟨s, sn, q, v, g, n⟩ := rpc_setT _ 1 _
theorem rset_gap (s : St) (sn : Sn) (q r g : Int) (n : Nat) (v : Int) : (rpc ⟨s, sn, q, r, g, n⟩).set 76 (.int .i64 v) = rpc ⟨s, sn, q, r, v, n⟩ := rpc_setT _ 2 _
theorem rset_next (s : St) (sn : Sn) (q r g : Int) (n : Nat) (v : Nat) : (rpc ⟨s, sn, q, r, g, n⟩).set 77 (.int .u32 v) = rpc ⟨s, sn, q, r, g, v⟩ := rpc_setT _ 3 _
theorem Blk.rquiet {w : World} {b : Nat} {T : TypeId} {s : St} {sn : Sn} {q r g : Int} {n : Nat} (h : Blk w b (rpc ⟨s, sn, q, r, g, n⟩) T) (v : Int) : Blk (w.setCell ⟨b, 74, none⟩ (.int .i64 v)) b (rpc ⟨s, sn, v, r, g, n⟩) T := by
  have e := h.set 74 (.int .i64 v); rwa [rset_quiet] at e
theorem Blk.rprobe {w : World} {b : Nat} {T : TypeId} {s : St} {sn : Sn} {q r g : Int} {n : Nat} (h : Blk w b (rpc ⟨s, sn, q, r, g, n⟩) T) (v : Int) : Blk (w.setCell ⟨b, 75, none⟩ (.int .i64 v)) b (rpc ⟨s, sn, q, v, g, n⟩) T := by
  have e := h.set 75 (.int .i64 v); rwa [rset_probe] at e
theorem Blk.rgap {w : World} {b : Nat} {T : TypeId} {s : St} {sn : Sn} {q r g : Int} {n : Nat} (h : Blk w b (rpc ⟨s, sn, q, r, g, n⟩) T) (v : Int) : Blk (w.setCell ⟨b, 76, none⟩ (.int .i64 v)) b (rpc ⟨s, sn, q, r, v, n⟩) T := by
  have e := h.set 76 (.int .i64 v); rwa [rset_gap] at e
theorem Blk.rnext {w : World} {b : Nat} {T : TypeId} {s : St} {sn : Sn} {q r g : Int} {n : Nat} (h : Blk w b (rpc ⟨s, sn, q, r, g, n⟩) T) (v : Nat) : Blk (w.setCell ⟨b, 77, none⟩ (.int .u32 v)) b (rpc ⟨s, sn, q, r, g, v⟩) T := by
  have e := h.set 77 (.int .u32 v); rwa [rset_next] at e
theorem rpc_one (p : Pa) : ∀ v ∈ rpc p, v.oneCell' = true := by
  intro v hv
  simp only [rpc, tl4, List.mem_append, List.mem_cons, List.not_mem_nil, or_false] at hv
  rcases hv with (hv | hv) | rfl | rfl | rfl | rfl
  · exact stc_one _ v hv
  · exact rsc_one _ v hv
  all_goals rfl
theorem rpc_s (p : Pa) : Part (rpc p) 0 (stc p.s) := by
  have h : Part (rpc p) 0 ([] ++ stc p.s ++ (rsc p.seen ++ tl4 p)) := ⟨by simp [rpc], fun k _ => by simp [rpc]⟩
  exact h.sub
theorem rpc_seen (p : Pa) : Part (rpc p) 5 (rsc p.seen) := by
  have h : Part (rpc p) 0 (stc p.s ++ rsc p.seen ++ tl4 p) := ⟨by simp [rpc], fun k _ => by simp [rpc]⟩
  exact h.sub
theorem rpc_set_s (p : Pa) (s : St) : setAll (rpc p) 0 (stc s) = rpc { p with s := s } := by
  have h : Part (rpc p) 0 ([] ++ stc p.s ++ (rsc p.seen ++ tl4 p)) := ⟨by simp [rpc], fun k _ => by simp [rpc]⟩
  have e := setAll_sub (bs' := stc s) h rfl
  rw [List.length_nil] at e
  rw [e, setAll_all _ _ (by simp [rpc, stc, rsc_len, tl4])]
  simp [rpc, tl4]
theorem rpc_set_seen (p : Pa) (s : Sn) : setAll (rpc p) 5 (rsc s) = rpc { p with seen := s } := by
  have h : Part (rpc p) 0 (stc p.s ++ rsc p.seen ++ tl4 p) := ⟨by simp [rpc], fun k _ => by simp [rpc]⟩
  have e := setAll_sub (bs' := rsc s) h (by rw [rsc_len, rsc_len])
  have e2 : 0 + (stc p.s).length = 5 := rfl
  rw [e2] at e
  rw [e, setAll_all _ _ (by simp [rpc, stc, rsc_len, tl4])]
  simp [rpc, tl4]
end Go.Proofs.Ytgdofgckjkmhjaa
