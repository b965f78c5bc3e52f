/- The rows of players. -/
import Derived.Test.YtimplkdmhndalaaLtA
import Derived.Test.YtimplkdmhndalaaApg
namespace Go.Proofs.Ytimplkdmhndalaa
open Go Go.RowKit
theorem kept_cell {w w' : World} {p : Addr} {v : Value} (hk : Kept [] w w') (h : w.cell? p = some v) : w'.cell? p = some v := by
  rw [hk.cell (block_lt_of_cell h) (by simp)]; exact h
def cel (h : List Ply) : List Value := h.flatMap enc5
theorem cel_len (h : List Ply) : (cel h).length = h.length * 5 := by
  induction h with
  | nil => rfl
  | cons x l ih => rw [cel, List.flatMap_cons, List.length_append, ← cel, ih]; simp [enc5]; omega
theorem cel_snoc (h : List Ply) (x : Ply) : cel (h ++ [x]) = cel h ++ enc5 x := by simp [cel]
theorem cel_at (l : List Ply) : ∀ i, i < l.length → ∀ k, k < 5 → (cel l)[i * 5 + k]? = (enc5 (l.getD i pl0))[k]? := by
  induction l with
  | nil => intro i hi; simp at hi
  | cons x l ih =>
    intro i hi k hk
    have e : cel (x :: l) = enc5 x ++ cel l := rfl
    rw [e]
    cases i with
    | zero => rw [Nat.zero_mul, Nat.zero_add, List.getElem?_append_left (by simp [enc5]; omega)]; rfl
    | succ i =>
      rw [List.getElem?_append_right (by simp [enc5]; omega)]
      have h := ih i (by simpa using hi) k hk
      rw [show (enc5 x).length = 5 from rfl, show (i + 1) * 5 + k - 5 = i * 5 + k by omega, h]
      rfl
theorem cel_one (h : List Ply) : ∀ u ∈ cel h, u.oneCell' = true := by
  intro u hu
  simp only [cel, List.mem_flatMap, enc5, List.mem_cons, List.not_mem_nil, or_false] at hu
  obtain ⟨x, _, rfl | rfl | rfl | rfl | rfl⟩ := hu <;> rfl
theorem own_slice {w : World} {base size : Nat} {e : TypeId} {v : Value} {n : Nat} {xs : List Value} (h : w.ownsRow base e size v n xs) : ∃ a c, v = .slice a n c := by
  rcases h.2 with ⟨rfl, rfl⟩ | ⟨g, cap, cur, rfl, _⟩
  · exact ⟨_, _, rfl⟩
  · exact ⟨_, _, rfl⟩
theorem own_kept3 {w w2 : World} {base size : Nat} {e : TypeId} {v : Value} {n : Nat} {xs : List Value} (h : w.ownsRow base e size v n xs) (hk : ∀ g cs, v.ownBlock = some g → w.heap[g]? = some (.cells cs e (0, 0)) → w2.heap[g]? = w.heap[g]?) : w2.ownsRow base e size v n xs := by
  refine ⟨h.1, ?_⟩
  rcases h.2 with hn | ⟨g, cap, cur, rfl, hb, hg, rest⟩
  · exact .inl hn
  · exact .inr ⟨g, cap, cur, rfl, hb, (hk g cur rfl hg).trans hg, rest⟩
set_option maxHeartbeats 800000 in
theorem idx_nil (fv : Value) (w : World) : Calls Try.prog 31 #[.slice none 0 0, fv] w fun e w' => e = .returned (.int .i64 (-1)) ∧ Kept [] w w' := by
  have K := hx (Kept.refl [] w)
  go_enter Try.func31, Try.ntmps31
  go_wp2
  go_loop [8] (fun iv => iv = .int .i64 0) (fun _ => 0)
  case atStart => rfl
  case round =>
    obtain rfl := hrel
    go_wp2
    go_ret
    exact ⟨rfl, K.out⟩
theorem cel_cells {w : World} {base : Nat} {e : TypeId} {g n c : Nat} {h : List Ply} (ho : w.ownsRow base e 5 (.slice (some ⟨g, 0, none⟩) n c) n (cel h)) : ∀ j, j < h.length → ∀ i v, (enc5 h[j]!)[i]? = some v → w.cell? ⟨g, 0 + j * 5 + i, none⟩ = some v := by
  intro j hj i v hv
  have hi : i < 5 := (List.getElem?_eq_some_iff.1 hv).1
  have hl := ho.1
  rw [cel_len] at hl
  have e1 := cel_at h j hj i hi
  rw [show h.getD j pl0 = h[j]! by simp [List.getD, hj]] at e1
  rw [Nat.zero_add, ho.cellAt (j * 5 + i) (by omega), e1, hv]
theorem grow_kept (w : World) (q : Nat) (os : Array Obj) : Kept [] w (Go.Sort.grow (w.drewN q) os) :=
  ⟨rfl, rfl, rfl, by simp [Go.Sort.grow, World.drewN], fun k hk _ => by
    show (w.heap ++ os)[k]? = _
    rw [Array.getElem?_append_left hk]⟩
theorem order_k (x y : Ply) (w : World) : Calls Try.prog 23 #[.agg #[txt x.nm, .int .i64 x.ma, .int .i64 x.wo, .int .i64 x.dr, .int .i64 x.lo], .agg #[txt y.nm, .int .i64 y.ma, .int .i64 y.wo, .int .i64 y.dr, .int .i64 y.lo]] w fun e w' => e = .returned (.int .i64 (cfP x y)) ∧ Kept [] w w' :=
  (order_any x y w).mono fun _ _ ⟨h1, q, os, h2⟩ => ⟨h1, by rw [h2]; exact grow_kept w q os⟩
theorem kept_own {bs : List Nat} {w A C : World} (h : Kept [] w A) (k : Kept bs A C) (hb : ∀ x, x ∈ bs → w.heap.size ≤ x) : Kept [] w C :=
  h.trans k (fun _ h => h) (fun x hx => .inr (hb x hx))
theorem infoPl5 : (Try.prog.info? 39).map (·.size) = some 5 := by kernel_rfl
theorem ret_en {P : Program} {w : World} {fn : Func} {p : Tmp} {ty : TypeId} (h : fn.results = #[.cell p ty]) (tmps : Array Value) (g : Nat) (T : TypeId) (x : Ply) (d : TypeDesc)
    (hp : tmps.getD p undef = .pointer (some ⟨g, 0, none⟩)) (hb : Blk w g (enc5 x) T)
    (hu : P.underlying ty = some d) (hd : (match d with | .struct _ | .array _ _ => true | _ => false) = true) (hi : (P.info? ty).map (·.size) = some 5) :
    (results fn tmps).run P w = .ok (.agg #[txt x.nm, .int .i64 x.ma, .int .i64 x.wo, .int .i64 x.dr, .int .i64 x.lo]) w :=
  ret_blk h tmps g T (enc5 x) d hp hb hu hd hi
theorem getD_in {h : List Ply} {i : Nat} (hi : i < h.length) : h[i]! = h.getD i pl0 := by simp [List.getD, hi]
theorem own_some5 {w : World} {base : Nat} {T : TypeId} {v : Value} {n : Nat} {xs : List Value} (h : w.ownsRow base T 5 v (n + 1) xs) : ∃ g c, v = .slice (some ⟨g, 0, none⟩) (n + 1) c := by
  rcases h with ⟨_, ⟨_, hn⟩ | ⟨g, cap, cur, rfl, _⟩⟩
  · omega
  · exact ⟨g, cap, rfl⟩
theorem news5 (W : World) (x : Ply) (T : TypeId) : ∀ j u, (enc5 x)[j]? = some u → (W.alloc (.cells #[txt x.nm, .int .i64 x.ma, .int .i64 x.wo, .int .i64 x.dr, .int .i64 x.lo] T)).cell? ((⟨W.heap.size, 0, none⟩ : Addr).add j) = some u := by
  intro j u hj
  rw [Addr.add_mid, Nat.zero_add]
  exact (Blk.new W (enc5 x) T).cell hj
theorem infoPl : (Try.prog.info? 39).map (fun i => (i.zero, i.size, i.bytes)) = some (some (.agg #[.string ByteArray.empty, .int .i64 0, .int .i64 0, .int .i64 0, .int .i64 0]), 5, 48) := by kernel_rfl
theorem one_enc5 (x : Ply) : ∀ u ∈ enc5 x, u.oneCell' = true := by
  intro u hu
  simp only [enc5, List.mem_cons, List.not_mem_nil, or_false] at hu
  rcases hu with rfl | rfl | rfl | rfl | rfl <;> rfl
end Go.Proofs.Ytimplkdmhndalaa
