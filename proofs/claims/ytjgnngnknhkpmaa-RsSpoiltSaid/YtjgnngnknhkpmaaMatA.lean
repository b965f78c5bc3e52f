/- The program's matrices: New, Right, row. -/
import Derived.Test.YtjgnngnknhkpmaaMatP
namespace Go.Proofs.Ytjgnngnknhkpmaa
open Go Go.RowKit
def mv (b r c cap : Nat) : Value := .agg #[.int .i64 r, .int .i64 c, .slice (some ⟨b, 0, none⟩) (r * c) cap]
theorem zeroMx (w : World) : (zeroValue 41).run Try.prog w = .ok (.agg #[.int .i64 0, .int .i64 0, .slice none 0 0]) w := by kernel_rfl
theorem infoMx : (Try.prog.info? 41).map (·.size) = some 3 := by kernel_rfl
theorem ret_cq {P : Program} {w : World} {fn : Func} {p q : Tmp} {ty : TypeId} (h : fn.results = #[.cell p ty, .tmp q]) (tmps : Array Value) (g : Nat) (T : TypeId) (xs : List Value) (u : Value) (d : TypeDesc)
    (hp : tmps.getD p undef = .pointer (some ⟨g, 0, none⟩)) (hq : tmps.getD q undef = u) (hb : Blk w g xs T)
    (hu : P.underlying ty = some d) (hd : (match d with | .struct _ | .array _ _ => true | _ => false) = true) (hi : (P.info? ty).map (·.size) = some xs.length) :
    (results fn tmps).run P w = .ok (.tuple #[.agg xs.toArray, u]) w := by
  have hp' : tmps[p]?.getD undef = .pointer (some ⟨g, 0, none⟩) := by simpa using hp
  have hq' : tmps[q]?.getD undef = u := by simpa using hq
  simp [results, h, hp', hq', asAddr, run_loadVar_row w g T ty xs.toArray (0, 0) d hb hu hd (by simpa using hi)]
theorem ret_c {P : Program} {w : World} {fn : Func} {p : Tmp} {ty : TypeId} (h : fn.results = #[.cell p ty]) (tmps : Array Value) (g : Nat) (T : TypeId) (xs : List Value) (d : TypeDesc)
    (hp : tmps.getD p undef = .pointer (some ⟨g, 0, none⟩)) (hb : Blk w g xs T)
    (hu : P.underlying ty = some d) (hd : (match d with | .struct _ | .array _ _ => true | _ => false) = true) (hi : (P.info? ty).map (·.size) = some xs.length) :
    (results fn tmps).run P w = .ok (.agg xs.toArray) w := by
  have hp' : tmps[p]?.getD undef = .pointer (some ⟨g, 0, none⟩) := by simpa using hp
  simp [results, h, hp', asAddr, run_loadVar_row w g T ty xs.toArray (0, 0) d hb hu hd (by simpa using hi)]
theorem mul_le {r c : Nat} (hr : r ≤ 255) (hc : c ≤ 255) : r * c ≤ 65025 := Nat.le_trans (Nat.mul_le_mul hr hc) (by omega)
set_option maxRecDepth 100000 in
set_option maxHeartbeats 1600000 in
theorem mnew_any (r c : Nat) (w : World) (hr : r ≤ 255) (hc : c ≤ 255) :
    Calls Try.prog 43 #[.int .i64 r, .int .i64 c] w fun e w' => e = .returned (.tuple #[mv (w.heap.size + 1) r c (r * c), .int .i64 0]) ∧ Blk w' (w.heap.size + 1) ((List.replicate (r * c) 0).map bn) 5 ∧ Kept [] w w' := by
  have hz := zeroMx
  unfold mv
  have hpb := mul_le hr hc
  obtain ⟨p, hp⟩ : ∃ p, r * c = p := ⟨_, rfl⟩
  have hpi : (r : Int) * (c : Int) = (p : Int) := by rw [← hp, Int.natCast_mul]
  rw [hp] at hpb ⊢
  have hmk := makeU8 p (by omega)
  have hr1 : (r : Int) ≤ 255 := by omega
  have hc1 : (c : Int) ≤ 255 := by omega
  have hw : IntKind.i64.wrap (p : Int) = (p : Int) := by rw [IntKind.wrap_i64]; omega
  clear hp
  go_enter Try.func43, Try.ntmps43
  go_wp2_with fail
  refine bodyPost_ret (ret_cq rfl _ w.heap.size 41 [.int .i64 r, .int .i64 c, .slice (some ⟨w.heap.size + 1, 0, none⟩) p p] _ _ rfl rfl ?_ Try.underlying41 rfl infoMx) rfl ⟨rfl, ?_, ?_⟩
  · exact (Blk.new w [.int .i64 r, .int .i64 c, .slice (some ⟨w.heap.size + 1, 0, none⟩) p p] 41).alloc _
  · have h := Blk.new' (w.alloc (.cells #[.int .i64 r, .int .i64 c, .slice (some ⟨w.heap.size + 1, 0, none⟩) p p] 41)) (madeCells #[.int .u8 0] p) 5
    rw [made_bn, World.size_alloc] at h
    exact h
  · exact ((Kept.refl [] w).alloc _).alloc _
set_option maxRecDepth 100000 in
set_option maxHeartbeats 1600000 in
theorem right_any (b r c cap : Nat) (w : World) (hr : r ≤ 255) (hc : c ≤ 255) :
    Calls Try.prog 45 #[mv b r c cap] w fun e w' => e = .returned (.bool true) ∧ Kept [] w w' := by
  unfold mv
  have hpb := mul_le hr hc
  obtain ⟨p, hp⟩ : ∃ p, r * c = p := ⟨_, rfl⟩
  have hpi : (r : Int) * (c : Int) = (p : Int) := by rw [← hp, Int.natCast_mul]
  rw [hp] at hpb ⊢
  have hr1 : (r : Int) ≤ 255 := by omega
  have hc1 : (c : Int) ≤ 255 := by omega
  have hw : IntKind.i64.wrap (p : Int) = (p : Int) := by rw [IntKind.wrap_i64]; omega
  have hk := (Kept.refl [] w).alloc (.cells #[.int .i64 r, .int .i64 c, .slice (some ⟨b, 0, none⟩) p cap] 41)
  clear hp
  go_enter Try.func45, Try.ntmps45
  go_wp2
  go_ret
  exact ⟨rfl, hk⟩
set_option maxRecDepth 100000 in
set_option maxHeartbeats 1600000 in
theorem row_any (b r c cap i : Nat) (w : World) (hr : r ≤ 255) (hc : c ≤ 255) (hc0 : 1 ≤ c) (hi : i < r) (hcap : r * c ≤ cap) :
    Calls Try.prog 46 #[mv b r c cap, .int .i64 i] w fun e w' => e = .returned (.slice (some ⟨b, i * c, none⟩) c c) ∧ Kept [] w w' := by
  unfold mv
  have hpb := mul_le hr hc
  have he := row_end (c := c) hi
  obtain ⟨p, hp⟩ : ∃ p, r * c = p := ⟨_, rfl⟩
  obtain ⟨q, hq⟩ : ∃ q, i * c = q := ⟨_, rfl⟩
  have hqi : (i : Int) * (c : Int) = (q : Int) := by rw [← hq, Int.natCast_mul]
  have hqj : ((i : Int) + 1) * (c : Int) = ((q + c : Nat) : Int) := by rw [Int.add_mul, hqi]; omega
  rw [hp] at hpb he hcap ⊢
  rw [hq] at he ⊢
  have hr1 : (r : Int) ≤ 255 := by omega
  have hc1 : (c : Int) ≤ 255 := by omega
  have hi1 : (i : Int) < 255 := by omega
  have hw : IntKind.i64.wrap (q : Int) = (q : Int) := by rw [IntKind.wrap_i64]; omega
  have hw2 : IntKind.i64.wrap ((q + c : Nat) : Int) = ((q + c : Nat) : Int) := by rw [IntKind.wrap_i64]; omega
  have hk := (Kept.refl [] w).alloc (.cells #[.int .i64 r, .int .i64 c, .slice (some ⟨b, 0, none⟩) p cap] 41)
  have hpc : (p : Int) ≤ (cap : Int) := by omega
  have hqp : (q : Int) + (c : Int) ≤ (p : Int) := by omega
  clear hp hq
  go_enter Try.func46, Try.ntmps46
  go_wp2
  go_ret
  exact ⟨by simp, hk⟩
end Go.Proofs.Ytjgnngnknhkpmaa
