/- Where Parse stands, and how it goes on. -/
import Derived.Test.YtdfbofkdlgfblaaDoorSeD
import Derived.Test.YtdfbofkdlgfblaaDoorFen
namespace Go.Proofs.YtdfbofkdlgfblaaDoor
open Go Go.RowKit Go.Shelf
/-- The cells' blocks stay, but for x and those of the type E. -/
def Ty (x : Nat) (E : TypeId) (A C : World) : Prop := ∀ (b : Nat) (cs : Array Value) (T : TypeId) (fz : Nat × Nat), A.heap[b]? = some (Obj.cells cs T fz) → b ≠ x → T ≠ E → C.heap[b]? = some (Obj.cells cs T fz)
theorem Ty.blk {x : Nat} {E : TypeId} {A C : World} {b : Nat} {xs : List Value} {T : TypeId} (h : Ty x E A C) (hb : Blk A b xs T) (h1 : b ≠ x) (h2 : T ≠ E) : Blk C b xs T := h b _ T _ hb h1 h2
theorem Ty.own {x base size n : Nat} {E e : TypeId} {A C : World} {v : Value} {xs : List Value} (h : Ty x E A C) (ho : A.ownsRow base e size v n xs) (hx : x < base) (he : e ≠ E) : C.ownsRow base e size v n xs := by
  refine ⟨ho.1, ?_⟩
  rcases ho.2 with h0 | ⟨g, cap, cur, hv, hb, hg, h4⟩
  · exact .inl h0
  · exact .inr ⟨g, cap, cur, hv, hb, h g _ _ _ hg (by omega) he, h4⟩
theorem grown_blk {w w2 : World} {row : Option Nat} {b : Nat} {xs : List Value} {T : TypeId} (hg : w.grownBy w2 row) (h : Blk w b xs T) (hn : some b ≠ row) : Blk w2 b xs T := by
  have hlt := h.lt
  unfold Blk at *
  rw [hg.block b hlt hn]
  exact h
theorem own_celled {w : World} {base size n : Nat} {e : TypeId} {v : Value} {xs : List Value} (ho : w.ownsRow base e size v n xs) {j : Nat} (hj : v.ownBlock = some j) : base ≤ j ∧ ∃ cs fz, w.heap[j]? = some (.cells cs e fz) := by
  rcases ho.2 with ⟨rfl, _⟩ | ⟨g, cap, cur, rfl, hb, hg, _⟩
  · simp [Value.ownBlock] at hj
  · simp only [Value.ownBlock, Option.some.injEq] at hj
    subst hj
    exact ⟨hb, _, _, hg⟩
theorem Ty.of {x i base size n : Nat} {E : TypeId} {A A2 A3 : World} {v u : Value} {xs : List Value} (k1 : Kept [] A A2) (ho : A2.ownsRow base E size v n xs) (hg : A2.grownBy A3 v.ownBlock) : Ty x E A (A3.setCell ⟨x, i, none⟩ u) := by
  intro b cs T fz hb hx hT
  have h2 : A2.heap[b]? = some (Obj.cells cs T fz) := by rw [k1.block b (lt_of_block hb) (by simp)]; exact hb
  have h3 : A3.heap[b]? = some (Obj.cells cs T fz) := by
    rw [hg.block b (lt_of_block h2) (fun e => by
      obtain ⟨_, ds, gz, hd⟩ := own_celled ho e.symm
      rw [h2] at hd
      simp only [Option.some.injEq, Obj.cells.injEq] at hd
      exact hT hd.2.1)]
    exact h2
  rw [Below.heap_setCell _ _ _ _ (by simpa using hx)]
  exact h3
theorem others_of {x i base size n : Nat} {E : TypeId} {A A2 A3 : World} {v u : Value} {xs : List Value} (k1 : Kept [] A A2) (ho : A2.ownsRow base E size v n xs) (hg : A2.grownBy A3 v.ownBlock) : KeepsOthers A (A3.setCell ⟨x, i, none⟩ u) :=
  ((⟨k1.size, fun k o hk _ => by rw [k1.block k (Array.getElem?_eq_some_iff.1 hk).1 (by simp)]; exact hk⟩ : KeepsOthers A A2).trans (KeepsOthers.of_grownBy hg (fun j p hj hp => by
    obtain ⟨_, cs, fz, hc⟩ := own_celled ho hj
    rw [hc] at hp
    simp only [Option.some.injEq] at hp
    subst hp
    rfl))).trans (KeepsOthers.setCell _ _ _)
theorem kept_of {x i base size n : Nat} {E : TypeId} {w0 A A2 A3 : World} {v u : Value} {xs : List Value} (k0 : Kept [] w0 A) (k1 : Kept [] A A2) (ho : A2.ownsRow base E size v n xs) (hg : A2.grownBy A3 v.ownBlock) (hx : w0.heap.size ≤ x) (hb : w0.heap.size ≤ base) : Kept [] w0 (A3.setCell ⟨x, i, none⟩ u) :=
  ((k0.trans0 k1).grown hg (fun j hj => .inr (by have := (own_celled ho hj).1; omega))).setCell (.inr (by simpa using hx)) u
/-- A row of numbers, where it lies. -/
def RwI (W : World) (B : Nat) (u : Value) (ns : List Int) : Prop := ∃ g c cur, u = .slice (some ⟨g, 0, none⟩) ns.length c ∧ B ≤ g ∧ Blk W g cur 3 ∧ cur.take ns.length = ints ns
theorem Ty.row {x B : Nat} {E : TypeId} {A C : World} {u : Value} {ns : List Int} (h : Ty x E A C) (hr : RwI A B u ns) (hx : x < B) (hE : 3 ≠ E) : RwI C B u ns := by
  obtain ⟨g, c, cur, h1, h2, h3, h4⟩ := hr
  exact ⟨g, c, cur, h1, h2, h.blk h3 (by omega) hE, h4⟩
theorem RwI.of {w w' : World} {B : Nat} {u : Value} {ns : List Int} (h : w'.ownsRow w.heap.size 3 1 u ns.length (ints ns)) (hn : ns ≠ []) (hB : B ≤ w.heap.size) : RwI w' B u ns := by
  obtain ⟨g, cap, cur, rfl, hb, hB2, ht, _⟩ := own_blk1 h (List.length_pos_iff.2 hn)
  exact ⟨g, cap, cur, rfl, by omega, hB2, ht⟩
def scV (av : Value) : List Value := cfL 0 0 0 0 0 0 0 0 0 0 0 ++ [av]
def actsC (xs : List (List Int)) : List Value := xs.flatMap ints
theorem actsC_snoc (xs : List (List Int)) (x : List Int) : actsC (xs ++ [x]) = actsC xs ++ ints x := by simp [actsC]
/-- Where Parse stands: its boxes are z .. z + 5, the text's is z + 6. -/
structure PaI (w0 : World) (z k : Nat) (s : PSt) (hv av : Value) (us : List Value) (W : World) : Prop where
  p2 : Blk W z (scV (.slice none 0 0)) 46
  p3 : Blk W (z + 1) [.int .i64 0] 3
  p4 : Blk W (z + 2) [.int .i64 0] 29
  p5 : Blk W (z + 3) (scV av) 46
  p6 : Blk W (z + 4) [hv] 82
  p7 : Blk W (z + 5) [.int .i64 (k : Int)] 3
  hr : W.ownsRow (z + 7) 65 1 hv s.1.length us
  rows : ∀ (i : Nat) u ns, us[i]? = some u → s.1[i]? = some ns → RwI W (z + 7) u ns
  ar : W.ownsRow (z + 7) 28 6 av s.2.length (actsC s.2)
  k0 : Kept [] w0 W
variable {w0 A A2 A3 : World} {z k : Nat} {s : PSt} {hv av hv' av' : Value} {us : List Value}
theorem PaI.ul (h : PaI w0 z k s hv av us A) : us.length = s.1.length := by have := h.hr.1; simpa using this
/-- All that is needed, stays: T keeps its blocks. -/
theorem PaI.same (h : PaI w0 z k s hv av us A) {C : World} (hb : ∀ {b : Nat} {cs : Array Value} {T : TypeId} {fz : Nat × Nat}, A.heap[b]? = some (Obj.cells cs T fz) → b ≠ z + 6 → C.heap[b]? = some (Obj.cells cs T fz)) (hk : Kept [] w0 C) : PaI w0 z k s hv av us C := by
  have hT : ∀ E : TypeId, Ty (z + 6) E A C := fun E b cs T fz h1 h2 _ => hb h1 h2
  have own : ∀ {e : TypeId} {size n : Nat} {v : Value} {xs : List Value}, A.ownsRow (z + 7) e size v n xs → C.ownsRow (z + 7) e size v n xs := fun {e size n v xs} ho => (hT (e + 1)).own ho (by omega) (Nat.ne_of_lt (Nat.lt_succ_self e))
  exact ⟨hb h.p2 (by omega), hb h.p3 (by omega), hb h.p4 (by omega), hb h.p5 (by omega), hb h.p6 (by omega), hb h.p7 (by omega), own h.hr, fun i u ns h1 h2 => (hT (3 + 1)).row (h.rows i u ns h1 h2) (by omega) (by decide), own h.ar, hk⟩
theorem PaI.kept (h : PaI w0 z k s hv av us A) {C : World} (hk : Kept [] A C) : PaI w0 z k s hv av us C :=
  h.same (fun {b cs T fz} h1 _ => by rw [hk.block b (lt_of_block h1) (by simp)]; exact h1) (h.k0.trans0 hk)
theorem PaI.keptE (h : PaI w0 z k s hv av us A) {C : World} {D : Nat} (hk : KeptE (z + 6) D A C) (hz : w0.heap.size = z) (hD : z ≤ D) : PaI w0 z k s hv av us C :=
  h.same (fun {b cs T fz} h1 h2 => by rw [hk.block b _ h1 h2 (.inr rfl)]; exact h1)
    ⟨hk.os.trans h.k0.os, hk.tape.trans h.k0.tape, hk.output.trans h.k0.output, Nat.le_trans h.k0.size hk.size, fun j hj hn => by
      have hjA : j < A.heap.size := Nat.lt_of_lt_of_le hj h.k0.size
      rw [hk.block j _ (Array.getElem?_eq_getElem hjA) (by omega) (.inl (by omega))]
      exact h.k0.block j hj hn⟩
theorem PaI.last (h : PaI w0 z k s hv av us A) (hz : w0.heap.size = z) (m : Nat) : PaI w0 z m s hv av us (A.setCell ⟨z + 5, 0, none⟩ (.int .i64 (m : Int))) := by
  have hT : ∀ E : TypeId, Ty (z + 5) E A (A.setCell ⟨z + 5, 0, none⟩ (.int .i64 (m : Int))) := fun E b cs T fz h1 h2 _ => by rw [Below.heap_setCell _ _ _ _ (by simpa using h2)]; exact h1
  have own : ∀ {e : TypeId} {size n : Nat} {v : Value} {xs : List Value}, A.ownsRow (z + 7) e size v n xs → (A.setCell ⟨z + 5, 0, none⟩ (.int .i64 (m : Int))).ownsRow (z + 7) e size v n xs := fun {e size n v xs} ho => (hT (e + 1)).own ho (by omega) (Nat.ne_of_lt (Nat.lt_succ_self e))
  exact ⟨h.p2.set_ne (by simp) _, h.p3.set_ne (by simp) _, h.p4.set_ne (by simp) _, h.p5.set_ne (by simp) _, h.p6.set_ne (by simp) _, h.p7.set 0 _, own h.hr, fun i u ns h1 h2 => (hT (3 + 1)).row (h.rows i u ns h1 h2) (by omega) (by decide), own h.ar, h.k0.setCell (.inr (by simp; omega)) _⟩
theorem PaI.head (h : PaI w0 z k s hv av us A) (hz : w0.heap.size = z) {u : Value} {ns : List Int} (k1 : Kept [] A A2) (hu : RwI A2 (z + 7) u ns) (hg : A2.grownBy A3 hv.ownBlock) (o3 : A3.ownsRow (z + 7) 65 1 hv' (s.1.length + 1) (us ++ [u])) :
    PaI w0 z k (s.1 ++ [ns], s.2) hv' av (us ++ [u]) (A3.setCell ⟨z + 4, 0, none⟩ hv') := by
  have ho := own_kept0 h.hr k1
  have hT : Ty (z + 4) 65 A (A3.setCell ⟨z + 4, 0, none⟩ hv') := Ty.of k1 ho hg
  have hT2 : Ty (z + 4) 65 A2 (A3.setCell ⟨z + 4, 0, none⟩ hv') := Ty.of (Kept.refl [] A2) ho hg
  have hne : some (z + 4) ≠ hv.ownBlock := fun e => by have := (own_celled ho e.symm).1; omega
  have h6 : Blk A3 (z + 4) [hv] 82 := grown_blk hg (k1.blk h.p6 (by simp)) hne
  refine ⟨hT.blk h.p2 (by omega) (by decide), hT.blk h.p3 (by omega) (by decide), hT.blk h.p4 (by omega) (by decide), hT.blk h.p5 (by omega) (by decide), h6.set 0 _, hT.blk h.p7 (by omega) (by decide), ?_, ?_, hT.own h.ar (by omega) (by decide), kept_of h.k0 k1 ho hg (by omega) (by omega)⟩
  · rw [List.length_append, List.length_singleton]
    exact own_set2 o3 ((Kept.refl [z + 4] A3).setCell (.inl (by simp)) hv') (by simp)
  · intro i v ms h1 h2
    have hul := h.ul
    by_cases hlt : i < us.length
    · rw [List.getElem?_append_left hlt] at h1
      rw [List.getElem?_append_left (by omega)] at h2
      exact hT.row (h.rows i v ms h1 h2) (by omega) (by decide)
    · have hi1 : i < (us ++ [u]).length := (List.getElem?_eq_some_iff.1 h1).1
      have hie : i = us.length := by simp at hi1; omega
      subst hie
      rw [List.getElem?_append_right (Nat.le_refl _), Nat.sub_self] at h1
      rw [List.getElem?_append_right (by omega), show us.length - s.1.length = 0 by omega] at h2
      simp only [List.getElem?_cons_zero, Option.some.injEq] at h1 h2
      subst h1
      subst h2
      exact hT2.row hu (by omega) (by decide)
theorem PaI.act (h : PaI w0 z k s hv av us A) (hz : w0.heap.size = z) {x : List Int} (k1 : Kept [] A A2) (hg : A2.grownBy A3 av.ownBlock) (o3 : A3.ownsRow (z + 7) 28 6 av' (s.2.length + 1) (actsC s.2 ++ ints x)) :
    PaI w0 z k (s.1, s.2 ++ [x]) hv av' us (A3.setCell ⟨z + 3, 11, none⟩ av') := by
  have ho := own_kept0 h.ar k1
  have hT : Ty (z + 3) 28 A (A3.setCell ⟨z + 3, 11, none⟩ av') := Ty.of k1 ho hg
  have hne : some (z + 3) ≠ av.ownBlock := fun e => by have := (own_celled ho e.symm).1; omega
  have h5 : Blk A3 (z + 3) (scV av) 46 := grown_blk hg (k1.blk h.p5 (by simp)) hne
  refine ⟨hT.blk h.p2 (by omega) (by decide), hT.blk h.p3 (by omega) (by decide), hT.blk h.p4 (by omega) (by decide), h5.set 11 _, hT.blk h.p6 (by omega) (by decide), hT.blk h.p7 (by omega) (by decide), hT.own h.hr (by omega) (by decide), fun i u ns h1 h2 => hT.row (h.rows i u ns h1 h2) (by omega) (by decide), ?_, kept_of h.k0 k1 ho hg (by omega) (by omega)⟩
  rw [actsC_snoc, List.length_append, List.length_singleton]
  exact own_set2 o3 ((Kept.refl [z + 3] A3).setCell (.inl (by simp)) av') (by simp)
end Go.Proofs.YtdfbofkdlgfblaaDoor
