/- The library's walk over a slice of entries: slices.Values, Collect, SortedFunc. -/
import Derived.Test.YtimplkdmhndalaaLtG
import Derived.Test.YtimplkdmhndalaaSeqY
import Derived.Maps.OwnIn
namespace Go.Proofs.Ytimplkdmhndalaa
open Go Go.RowKit Go.Shelf
attribute [local go_sem] Oper.semAt_some
/-- All cells stay but those of blocks of which p holds. -/
structure KpP (p : Nat → TypeId → Prop) (A C : World) : Prop where
  size : A.heap.size ≤ C.heap.size
  same : ∀ b xs T fr, A.heap[b]? = some (.cells xs T fr) → ¬ p b T → C.heap[b]? = A.heap[b]?
theorem kpp_t {p : Nat → TypeId → Prop} {A B C : World} (h : KpP p A B) (k : KpP p B C) : KpP p A C :=
  ⟨Nat.le_trans h.size k.size, fun b xs T fr ho hn => by
    have h1 := h.same b xs T fr ho hn
    rw [k.same b xs T fr (h1.trans ho) hn, h1]⟩
theorem kpp_b {p : Nat → TypeId → Prop} (W : World) (l : Nat) (o o' : Obj) (hl : W.heap[l]? = some o) (hc : o.isCells = false) : KpP p W (W.putObj l o') :=
  ⟨by simp [World.putObj], fun b xs T fr hp _ => by
    have hne : b ≠ l := by
      rintro rfl
      rw [hl] at hp
      simp only [Option.some.injEq] at hp
      rw [hp] at hc
      cases hc
    exact World.putObj_heap_other hne⟩
theorem Blk.kpp {p : Nat → TypeId → Prop} {A C : World} {b : Nat} {xs : List Value} {T : TypeId} (h : Blk A b xs T) (hk : KpP p A C) (hn : ¬ p b T) : Blk C b xs T := by
  unfold Blk at *
  rw [hk.same b _ _ _ h hn]
  exact h
theorem own_kpp {p : Nat → TypeId → Prop} {A C : World} {base size : Nat} {e : TypeId} {v : Value} {n : Nat} {xs : List Value} (h : A.ownsRow base e size v n xs) (hk : KpP p A C) (hn : ∀ g, v.ownBlock = some g → ¬ p g e) : C.ownsRow base e size v n xs :=
  own_kept3 h (fun g _ hg hc => hk.same g _ _ _ hc (hn g hg))
theorem KpP.of {p : Nat → TypeId → Prop} {bs : List Nat} {A C : World} (h : Kept bs A C) (hb : ∀ b T, b ∈ bs → p b T) : KpP p A C :=
  ⟨h.size, fun b _ T _ ho hn => h.block b (Array.getElem?_eq_some_iff.1 ho).1 (fun hc => hn (hb b T hc))⟩
theorem KeptN.own {B : Nat} {A C : World} {base size : Nat} {e : TypeId} {v : Value} {n : Nat} {xs : List Value} (h : A.ownsRow base e size v n xs) (hk : KeptN B A C) : C.ownsRow base e size v n xs :=
  own_kept3 h (fun g _ _ hc => hk.block g _ hc (.inr rfl))
theorem KeptN.kept {B : Nat} {w A C : World} (h : Kept [] w A) (hk : KeptN B A C) (hB : w.heap.size ≤ B) : Kept [] w C :=
  ⟨hk.os.trans h.os, hk.tape.trans h.tape, hk.output.trans h.output, Nat.le_trans h.size hk.size, fun k hlt hn => by
    have hs := h.size
    have e : A.heap[k]? = some A.heap[k] := Array.getElem?_eq_getElem (by omega)
    rw [hk.block k _ e (.inl (by omega))]
    exact h.block k hlt hn⟩
theorem Blk.below {B : Nat} {A C : World} {b : Nat} {xs : List Value} {T : TypeId} (h : Blk A b xs T) (hb : Below B A C) (hlt : b < B) : Blk C b xs T := by
  unfold Blk at *
  rw [hb.block b hlt]
  exact h
theorem Kept.below {B : Nat} {w A C : World} (h : Kept [] w A) (hb : Below B A C) (hB : w.heap.size ≤ B) : Kept [] w C :=
  ⟨hb.os.trans h.os, hb.tape.trans h.tape, hb.output.trans h.output, Nat.le_trans h.size hb.size, fun k hk hn => (hb.block k (by omega)).trans (h.block k hk hn)⟩
abbrev encE (x : Ply) : Array Value := #[.agg #[txt x.nm, .int .i64 x.ma, .int .i64 x.wo, .int .i64 x.dr, .int .i64 x.lo]]
theorem values_any (v : Value) (w : World) (h1 : ∃ a n c, v = .slice a n c) :
    Calls Try.prog 22 #[v] w fun e w' => e = .returned (.func (.func 39) #[] #[.pointer (some ⟨w.heap.size, 0, none⟩)]) ∧ w' = w.alloc (.cells #[v] 46) := by
  obtain ⟨a, n, c, rfl⟩ := h1
  go_enter Try.func22, Try.ntmps22
  go_wp2
  go_ret
  exact ⟨rfl, rfl⟩
set_option maxRecDepth 100000 in
set_option maxHeartbeats 4000000 in
theorem vals_stops (n B : Nat) (v : Value) (l : List Ply) (p : Nat → TypeId → Prop) (w : World) (hB : Blk w B [v] 46) (ho : w.ownsRow 0 39 5 v l.length (cel l)) (hpB : ¬ p B 46) (hpg : ∀ g, v.ownBlock = some g → ¬ p g 39) (hb : l.length ≤ 1000000) (hn : 1 ≤ n) :
    SeqY Fence.wide n Try.prog 39 #[.pointer (some ⟨B, 0, none⟩)] encE (KpP p) (fun xs => xs = l) (fun pre => pre <+: l) l.length w := fun k J Jx W hW hJ hJx hY h0 => by
  have hkW := Kept.ofBelow hW
  have HB := hx (hkW.blk hB (by simp))
  have HO := hx (own_kept3 ho (fun g cs _ hg => hkW.block g (Array.getElem?_eq_some_iff.1 hg).1 (by simp)))
  have HJ := hx hJ
  have HY := hx hY
  have H0 := hx h0
  have HPB := hx hpB
  have HPG := hx hpg
  have cB := HB.out.cell (i := 0) rfl
  obtain ⟨a, c, rfl⟩ := own_slice ho
  clear hW hkW hB ho hJ hY h0 hpB hpg hJx
  refine callsIn_of_wp Try.func39 rfl trivial ?_ rfl
  simp only [Try.ntmps39, List.size_toArray, List.length_cons, List.length_nil, Nat.reduceAdd, Nat.reduceSub, Array.replicate_succ, Array.replicate_zero, List.push_toArray, List.append_toArray, List.nil_append, List.cons_append]
  gi_wp2
  clear cB
  gi_loopw [7] (fun iv wr => ∃ (pre rest : List Ply), l = pre ++ rest ∧ iv = .int .i64 (pre.length : Int) ∧ J pre wr ∧ Blk wr B [.slice a l.length c] 46 ∧ wr.ownsRow 0 39 5 (.slice a l.length c) l.length (cel l)) (fun iv _ => l.length - (intOf iv).toNat)
  case atStart => exact ⟨[], l, rfl, rfl, H0.out, HB.out, HO.out⟩
  case round =>
    clear H0 HB HO
    obtain ⟨pre, rest, hl, rfl, hj, hb2, ho2⟩ := hrel
    have HBB := hx hb2
    have HOO := hx ho2
    have HJJ := hx hj
    have HLL := hx hl
    clear hb2 ho2 hj
    cases rest with
    | nil =>
      have hlen : pre.length = l.length := by rw [hl]; simp
      have hlt : ¬ (pre.length : Int) < (l.length : Int) := by omega
      clear hl
      gi_wp2
      go_end0
      have e : pre = l := by rw [HLL.out]; simp
      exact ⟨⟨_, rfl⟩, .inl (e ▸ HJJ.out)⟩
    | cons x rest =>
      have hlen : pre.length < l.length := by rw [hl]; simp
      have hlt : (pre.length : Int) < (l.length : Int) := by omega
      have hx0 : l.getD pre.length pl0 = x := by rw [hl]; simp [List.getD]
      have hown := HOO.out
      obtain ⟨_, ⟨_, h0⟩ | ⟨g, cap, cur, he, _, hg, _⟩⟩ := hown
      · omega
      simp only [Value.slice.injEq, true_and] at he
      obtain ⟨rfl, rfl⟩ := he
      have hcc := cel_cells HOO.out
      have e0 := hcc pre.length hlen 0 _ rfl
      have e1 := hcc pre.length hlen 1 _ rfl
      have e2 := hcc pre.length hlen 2 _ rfl
      have e3 := hcc pre.length hlen 3 _ rfl
      have e4 := hcc pre.length hlen 4 _ rfl
      rw [getD_in hlen, hx0] at e0 e1 e2 e3 e4
      simp only [Nat.zero_add, Nat.add_zero] at e0 e1 e2 e3 e4
      have HKA := hx ((Kept.refl [] wr).alloc (.cells #[txt x.nm, .int .i64 x.ma, .int .i64 x.wo, .int .i64 x.dr, .int .i64 x.lo] 39))
      have hJ2 := HJ.out.2 pre wr _ HJJ.out (KeptN.of HKA.out)
      obtain ⟨fn, tmps, assign, body, hy, hR⟩ := HY.out pre x _ hJ2 hlen
      dsimp only [encE] at hy
      have hp0 : (0 : Int) ≤ (pre.length : Int) := by omega
      clear hl hcc hx0 hg hJ2
      gi_wp2
      refine hR.mono ?_
      rintro e W3 (⟨rfl, hJ3, hk3⟩ | ⟨rfl, hx3⟩)
      · have HB3 := hx ((HBB.out.alloc (.cells #[txt x.nm, .int .i64 x.ma, .int .i64 x.wo, .int .i64 x.dr, .int .i64 x.lo] 39)).kpp hk3 HPB.out)
        have HO3 := hx (own_kpp (World.ownsRow.alloc HOO.out (.cells #[txt x.nm, .int .i64 x.ma, .int .i64 x.wo, .int .i64 x.dr, .int .i64 x.lo] 39)) hk3 HPG.out)
        have HJ3 := hx hJ3
        clear hJ3 hk3
        gi_wp2
        go_roundw
        case rel => exact ⟨pre ++ [x], rest, HLL.out.trans (by simp), by simp, HJ3.out, HB3.out, HO3.out⟩
        case measure => simp [intOf] <;> omega
      · gi_wp2
        refine bodyPost_ret (results_none rfl _ _ _) rfl ?_
        exact ⟨⟨_, rfl⟩, .inr ⟨pre ++ [x], ⟨rest, (HLL.out.trans (by simp)).symm⟩, hx3⟩⟩
theorem own_le {w : World} {base b2 size n : Nat} {e : TypeId} {v : Value} {xs : List Value} (h : w.ownsRow base e size v n xs) (hb : b2 ≤ base) : w.ownsRow b2 e size v n xs := by
  refine ⟨h.1, ?_⟩
  rcases h.2 with hn | ⟨g, cap, cur, rfl, hg, rest⟩
  · exact .inl hn
  · exact .inr ⟨g, cap, cur, rfl, by omega, rest⟩
theorem own_base {w w2 : World} {base size n m : Nat} {e : TypeId} {v : Value} {xs ys : List Value} (h : w.ownsRow base e size v n xs) (k : w2.ownsRow 0 e size v m ys) : w2.ownsRow base e size v m ys := by
  refine ⟨k.1, ?_⟩
  rcases k.2 with hn | ⟨g, cap, cur, rfl, hb, rest⟩
  · exact .inl hn
  · exact .inr ⟨g, cap, cur, rfl, (h.lt g rfl).1, rest⟩
theorem grown_blk {w w2 : World} {row : Option Nat} {b : Nat} {xs : List Value} {T : TypeId} (hg : w.grownBy w2 row) (h : Blk w b xs T) (hn : some b ≠ row) : Blk w2 b xs T := by
  have hlt := h.lt
  unfold Blk at *
  rw [hg.block b hlt hn]
  exact h
theorem own_cells {w : World} {base size : Nat} {e : TypeId} {v : Value} {n : Nat} {xs : List Value} (h : w.ownsRow base e size v n xs) {j : Nat} {o : Obj} (hj : v.ownBlock = some j) (ho : w.heap[j]? = some o) : o.isCells = true := by
  rcases h.2 with ⟨rfl, _⟩ | ⟨g, cap, cur, rfl, _, hg, _⟩
  · simp [Value.ownBlock] at hj
  · simp [Value.ownBlock] at hj
    subst hj
    rw [hg] at ho
    simp only [Option.some.injEq] at ho
    subst ho
    rfl
/-- A round that collects: one more stands behind, the box holds the slice anew. -/
theorem app_end {w W w5 : World} {b size n m : Nat} {e T : TypeId} {v v2 : Value} {xs ys : List Value} {o : Obj} (hk : Kept [] w W) (hb : Blk W b [v] T) (hb0 : w.heap.size ≤ b) (ho : W.ownsRow (b + 1) e size v n xs) (hg : (W.alloc o).grownBy w5 v.ownBlock) (ho5 : w5.ownsRow (b + 1) e size v2 m ys) :
    KeepsOthers W (w5.setCell ⟨b, 0, none⟩ v2) ∧ KpP (fun c S => c = b ∨ (S = e ∧ b < c)) W (w5.setCell ⟨b, 0, none⟩ v2) ∧ Blk (w5.setCell ⟨b, 0, none⟩ v2) b [v2] T ∧ (w5.setCell ⟨b, 0, none⟩ v2).ownsRow (b + 1) e size v2 m ys ∧ Kept [] w (w5.setCell ⟨b, 0, none⟩ v2) := by
  have hoa := World.ownsRow.alloc ho o
  have hne : some b ≠ v.ownBlock := fun h => by have := (ho.lt _ h.symm).1; omega
  have hne2 : some b ≠ v2.ownBlock := fun h => by have := (ho5.lt _ h.symm).1; omega
  have hb5 := grown_blk hg (hb.alloc o) hne
  have hset := (Kept.refl [b] w5).setCell (p := ⟨b, 0, none⟩) (.inl (by simp)) v2
  have hk5 : Kept v.ownBlock.toList W w5 := (((Kept.refl [] W).alloc o).mono (cs := v.ownBlock.toList) (by simp)).grown hg (fun k h => .inl (by simp [h]))
  have hk6 : Kept (b :: v.ownBlock.toList) W (w5.setCell ⟨b, 0, none⟩ v2) := (hk5.mono (fun x hx => .inl (List.mem_cons_of_mem _ hx))).setCell (p := ⟨b, 0, none⟩) (.inl (by simp)) v2
  refine ⟨?_, ⟨hk6.size, fun c cs S fr hc hn => ?_⟩, hb5.set 0 v2, ?_, ?_⟩
  · exact ((KeepsOthers.alloc W o).trans (KeepsOthers.of_grownBy hg (fun j p hj hp => own_cells hoa hj hp))).trans (KeepsOthers.setCell _ _ _)
  · refine hk6.block c (Array.getElem?_eq_some_iff.1 hc).1 (fun hm => hn ?_)
    rcases List.mem_cons.1 hm with rfl | hm
    · exact .inl rfl
    · simp only [Option.mem_toList] at hm
      have h1 := (ho.lt _ hm).1
      rcases ho.2 with ⟨rfl, _⟩ | ⟨g, cap, cur, rfl, _, hgg, _⟩
      · simp [Value.ownBlock] at hm
      · simp [Value.ownBlock] at hm
        subst hm
        rw [hgg] at hc
        simp only [Option.some.injEq, Obj.cells.injEq] at hc
        exact .inr ⟨hc.2.1.symm, by omega⟩
  · exact own_kept3 ho5 (fun g _ hgv hgc => hset.block g (Array.getElem?_eq_some_iff.1 hgc).1 (by simp; rintro rfl; exact hne2 hgv.symm))
  · exact kept_own hk hk6 (fun x hx => by
      rcases List.mem_cons.1 hx with rfl | hx
      · exact hb0
      · simp only [Option.mem_toList] at hx
        have := (ho.lt _ hx).1
        omega)
set_option maxRecDepth 100000 in
set_option maxHeartbeats 8000000 in
theorem appseq_any (B : Nat) (v : Value) (l : List Ply) (w : World) (hB : Blk w B [v] 46) (ho : w.ownsRow 0 39 5 v l.length (cel l)) (hb : l.length ≤ 1000000) :
    Calls Try.prog 46 #[.slice none 0 0, .func (.func 39) #[] #[.pointer (some ⟨B, 0, none⟩)]] w fun e w' => ∃ v', e = .returned v' ∧ w'.ownsRow w.heap.size 39 5 v' l.length (cel l) ∧ Kept [] w w' := by
  have HB := hx hB
  have HO := hx ho
  have HL := hx hb
  have HBL := hx hB.lt
  clear hB ho hb
  refine (callsIn_wide (n := 6)).1 ?_
  refine callsIn_of_wp_marks Try.func46 rfl trivial ?_ rfl
  simp only [Try.ntmps46, List.size_toArray, List.length_cons, List.length_nil, Nat.reduceAdd, Nat.reduceSub, Array.replicate_succ, Array.replicate_zero, List.push_toArray, List.append_toArray, List.nil_append, List.cons_append]
  refine wpIn_wide.2 ?_
  go_wp2_with fail
  have B2 := hx (Blk.new w [.slice none 0 0] 46)
  have B1 := hx (HB.out.alloc (.cells #[.slice none 0 0] 46))
  have K1 := hx ((Kept.refl [] w).alloc (.cells #[.slice none 0 0] 46))
  have O1 := hx (World.ownsRow.alloc HO.out (.cells #[.slice none 0 0] 46))
  have HBL1 := hx (show w.heap.size < (w.alloc (.cells #[.slice none 0 0] 46)).heap.size by simp)
  have HGL := hx (HO.out.lt)
  clear HB HO
  generalize w.alloc (.cells #[.slice none 0 0] 46) = w1 at *
  have HST := hx (vals_stops 5 B v l (fun b T => b = w.heap.size ∨ (T = 39 ∧ w.heap.size < b)) w1 B1.out O1.out (by rintro (h | ⟨h, _⟩); exact absurd HBL.out (by omega); exact absurd h (by decide)) (fun g hg => by
    rintro (h | ⟨_, h⟩)
    · have := (HGL.out g hg).2; omega
    · have := (HGL.out g hg).2; omega) HL.out (by omega))
  refine (wpIn_wide (n := 6)).1 ?_
  apply rangeYH (F := Fence.wide) (n := 6) (gf := 39) (lb := #[.pointer (some ⟨B, 0, none⟩)]) (encs := encE) (Kp := KpP (fun b T => b = w.heap.size ∨ (T = 39 ∧ w.heap.size < b))) (S := fun xs => xs = l) (Sp := fun pre => pre <+: l) (N := l.length) rfl (by omega) rfl trivial (enters_of Try.func39 (by kernel_rfl) rfl) HST.out kpp_t (fun W l o o' _ h hc => kpp_b W l o o' h hc) (fun _ => rfl)
    (fun pre W => ∃ u, Blk W w.heap.size [u] 46 ∧ W.ownsRow (w.heap.size + 1) 39 5 u pre.length (cel pre) ∧ Kept [] w W ∧ (pre = [] → u = .slice none 0 0))
    (fun cd pre _ => False)
    ⟨fun A C ⟨u, h1, h2, h3, h4⟩ hb => ⟨u, h1.below hb HBL1.out, by rw [h4 rfl]; exact World.ownsRow_nil _ _ _ 5, h3.below hb (Nat.le_of_lt HBL1.out), h4⟩, fun pre A C ⟨u, h1, h2, h3, h4⟩ hb => ⟨u, hb.blk h1, hb.own h2, hb.kept h3 (Nat.le_of_lt HBL1.out), h4⟩⟩
    (fun _ _ _ _ h _ => h)
    ⟨_, B2.out, World.ownsRow_nil _ _ _ 5, K1.out, fun _ => rfl⟩
    (fun h => KpP.of h (by simp))
    (fun x a' W => ∃ Bx, w.heap.size < Bx ∧ Blk W Bx (enc5 x) 39 ∧ a' = { tmps := #[.slice none 0 0, .func (.func 39) #[] #[.pointer (some ⟨B, 0, none⟩)], .pointer (some ⟨w.heap.size, 0, none⟩), undef, .slice none 0 0, .pointer (some ⟨Bx, 0, none⟩), .func (.func 39) #[] #[.pointer (some ⟨B, 0, none⟩)], .agg #[txt x.nm, .int .i64 x.ma, .int .i64 x.wo, .int .i64 x.dr, .int .i64 x.lo], undef, undef, undef, undef, undef], defers := [] })
    (fun x a' A C ⟨Bx, h1, h2, h3⟩ hk => ⟨Bx, h1, hk.blk h2, h3⟩)
  case hassign =>
    rintro l pre x W K ⟨u, h1, h2, h3, h4⟩ hlen hK
    have HH := hx (hK _ _ ((Kept.refl [] W).alloc (.cells #[txt x.nm, .int .i64 x.ma, .int .i64 x.wo, .int .i64 x.dr, .int .i64 x.lo] 39)) ⟨W.heap.size, h1.lt, Blk.new W (enc5 x) _, rfl⟩)
    clear hK h1 h2 h3 h4
    gi_wp2
    exact HH.out
  case hbody =>
    rintro l pre x a' W ⟨u, h1, h2, h3, h4⟩ ⟨Bx, hb1, hb2, rfl⟩ hlen
    have c0 := h1.cell (i := 0) rfl
    have e0 := hb2.cell (i := 0) rfl
    have e1 := hb2.cell (i := 1) rfl
    have e2 := hb2.cell (i := 2) rfl
    have e3 := hb2.cell (i := 3) rfl
    have e4 := hb2.cell (i := 4) rfl
    have f0 := h1.free
    obtain ⟨a, c, rfl⟩ := own_slice h2
    have HW := hx h1
    have HO := hx h2
    have HK := hx h3
    have HLN := hx (Nat.lt_of_lt_of_le hlen HL.out)
    obtain ⟨i0, hi0, hz0, hz1, hz2⟩ := info_parts infoPl
    have HI := hx (And.intro hi0 (And.intro hz0 (And.intro hz1 hz2)))
    clear h1 h2 h3 h4 hb1 hb2 hlen hi0 hz0 hz1 hz2
    gi_wp2_with (gi_at_builtin; (refine wpListIn_append_own_at _ rfl (.tmp 8) (.tmp 10) 46 rfl (w.heap.size + 1) 39 i0 (.agg #[.string ByteArray.empty, .int .i64 0, .int .i64 0, .int .i64 0, .int .i64 0] ) 5 48 Try.underlying46 HI.out.1 HI.out.2.1 HI.out.2.2.1 HI.out.2.2.2 rfl (by omega) (.slice a pre.length c) pre.length (cel pre) rfl (World.ownsRow.alloc HO.out _) ⟨_, 0, none⟩ 1 1 (enc5 x) rfl rfl (news5 W x _) (one_enc5 x) (by have := HLN.out; unfold maxLen; omega) (by have := HLN.out; omega) (by have := HW.out.lt; simp; omega) ?_; intro v2 w5 o5 g5 n5 at5; obtain ⟨gb, cb, ev⟩ := own_some5 (base := w.heap.size + 1) o5; subst ev; have HB5 := hx (grown_blk g5 (HW.out.alloc _) (fun e => by have := (HO.out.lt _ e.symm).1; omega)); have d0 := HB5.out.cell (i := 0) rfl; have df := HB5.out.free))
    have HE := app_end HK.out HW.out (Nat.le_refl _) HO.out g5 o5
    refine ⟨HE.1, HE.2.1, _, HE.2.2.1, ?_, HE.2.2.2.2, by simp⟩
    rw [cel_snoc, List.length_append]
    exact HE.2.2.2.1
  case hdone =>
    rintro D xs W hD rfl ⟨u, h1, h2, h3, h4⟩ hK
    have c0 := h1.cell (i := 0) rfl
    have HKD := hx hK
    have HDD := hx hD
    have HO := hx h2
    have HKK := hx h3
    clear h1 h2 h3 h4 hK hD
    go_wp2
    refine ⟨by simp, .inl ⟨_, _, rfl, run_takeDeferred HKD.out, ?_⟩⟩
    have hkn := keptN_put (B := D) W D _ (.deferred none) (Nat.le_refl _) HKD.out rfl
    refine ⟨_, results_tmp rfl _ _ _, _, rfl, hkn.own (own_le HO.out (Nat.le_succ _)), hkn.kept HKK.out (by have := HDD.out; have := HBL1.out; omega)⟩
  case hstop =>
    rintro D cd pre W _ hp hF _
    exact hF.elim
theorem collect_any (B : Nat) (v : Value) (l : List Ply) (w : World) (hB : Blk w B [v] 46) (ho : w.ownsRow 0 39 5 v l.length (cel l)) (hb : l.length ≤ 1000000) :
    Calls Try.prog 37 #[.func (.func 39) #[] #[.pointer (some ⟨B, 0, none⟩)]] w fun e w' => ∃ v', e = .returned v' ∧ w'.ownsRow w.heap.size 39 5 v' l.length (cel l) ∧ Kept [] w w' := by
  have HA := hx (appseq_any B v l w hB ho hb)
  clear hB ho hb
  go_enter Try.func37, Try.ntmps37
  go_wp2_with fail
  refine HA.out.mono ?_
  rintro e w1 ⟨v', rfl, ho1, hk1⟩
  have H := hx (And.intro ho1 hk1)
  clear ho1 hk1 HA
  go_wp2
  go_ret
  exact ⟨_, rfl, H.out.1, H.out.2⟩
theorem sortedf_any (B : Nat) (v : Value) (h s : List Ply) (w : World) (hB : Blk w B [v] 46) (ho : w.ownsRow 0 39 5 v h.length (cel h)) (hp : s.Perm h) (hs : s.Pairwise ltP) (hu : s.Pairwise (fun x y => x.nm ≠ y.nm)) (hb : h.length ≤ 1000000) :
    Calls Try.prog 21 #[.func (.func 39) #[] #[.pointer (some ⟨B, 0, none⟩)], .func (.func 23) #[] #[]] w fun e w' => ∃ v', e = .returned v' ∧ w'.ownsRow w.heap.size 39 5 v' s.length (cel s) ∧ Kept [] w w' := by
  have HA := hx (collect_any B v h w hB ho hb)
  have HS := hx (fun v1 w1 (ho1 : w1.ownsRow 0 39 5 v1 h.length (cel h)) => sort_any v1 h s w1 ho1 hp hs hu hb)
  clear hB ho hb hp hs hu
  go_enter Try.func21, Try.ntmps21
  go_wp2_with fail
  refine HA.out.mono ?_
  rintro e w1 ⟨v', rfl, ho1, hk1⟩
  have HO := hx ho1
  have HK := hx hk1
  have HS1 := hx (HS.out v' w1 (own_le ho1 (Nat.zero_le _)))
  clear ho1 hk1 HA HS
  go_wp2_with fail
  refine HS1.out.mono ?_
  rintro e w2 ⟨rfl, ho2, hk2⟩
  have HO2 := hx (own_base HO.out ho2)
  have HK2 := hx (kept_own HK.out hk2 (fun x hx => (HO.out.lt x (by simpa using hx)).1))
  clear ho2 hk2 HO HK HS1
  go_wp2
  go_ret
  exact ⟨_, rfl, HO2.out, HK2.out⟩
end Go.Proofs.Ytimplkdmhndalaa
