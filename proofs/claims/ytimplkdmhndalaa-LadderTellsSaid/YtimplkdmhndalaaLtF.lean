/- The ladder's New. -/
import Derived.Test.YtimplkdmhndalaaLtE
namespace Go.Proofs.Ytimplkdmhndalaa
open Go Go.RowKit Go.Shelf
theorem newsB {w : World} {g : Nat} {xs : List Value} {T : TypeId} (h : Blk w g xs T) : ∀ ad, some (⟨g, 0, none⟩ : Addr) = some ad → ∀ j u, xs[j]? = some u → w.cell? (ad.add j) = some u := by
  intro ad he j u hj
  simp only [Option.some.injEq] at he
  subst he
  rw [Addr.add_mid, Nat.zero_add]
  exact h.cell hj
/-- A list of names, as it lies. -/
structure NmR (w : World) (a : Option Addr) (l : List (List UInt8)) : Prop where
  at_ : ∀ (i : Nat) x, l[i]? = some x → ∃ g o, a = some ⟨g, o, none⟩ ∧ g < w.heap.size ∧ w.cell? ⟨g, o + i, none⟩ = some (txt x)
theorem NmR.kept {w w' : World} {a : Option Addr} {l : List (List UInt8)} (h : NmR w a l) (hk : Kept [] w w') : NmR w' a l :=
  ⟨fun i x hx => by
    obtain ⟨g, o, ha, hg, hc⟩ := h.at_ i x hx
    exact ⟨g, o, ha, Nat.lt_of_lt_of_le hg hk.size, by rw [hk.cell hg (by simp)]; exact hc⟩⟩
def mkN (n : List UInt8) : Ply := ⟨n, 1500, 0, 0, 0⟩
/-- Players of names; none: two are alike. -/
def addN : List Ply → List (List UInt8) → Option (List Ply)
  | out, [] => some out
  | out, n :: r => match plAt n out with
    | some _ => none
    | none => addN (out ++ [mkN n]) r
theorem addN_map : ∀ {l : List (List UInt8)} {out r : List Ply}, addN out l = some r → r = out ++ l.map mkN
  | [], out, r, h => by simp only [addN, Option.some.injEq] at h; simp [h]
  | n :: l, out, r, h => by
    rw [addN] at h
    cases hp : plAt n out with
    | some i => rw [hp] at h; cases h
    | none =>
      rw [hp] at h
      rw [addN_map h]
      simp
theorem addN_nm : ∀ {l : List (List UInt8)} {out r : List Ply}, addN out l = some r → out.Pairwise (fun x y => x.nm ≠ y.nm) → r.Pairwise (fun x y => x.nm ≠ y.nm)
  | [], out, r, h, hd => by simp only [addN, Option.some.injEq] at h; rwa [← h]
  | n :: l, out, r, h, hd => by
    rw [addN] at h
    cases hp : plAt n out with
    | some i => rw [hp] at h; cases h
    | none =>
      rw [hp] at h
      refine addN_nm h (List.pairwise_append.2 ⟨hd, by simp, fun x hx y hy => ?_⟩)
      simp only [List.mem_singleton] at hy
      subst hy
      exact plAt_none hp x hx
/-- What New answers. -/
def newP (l : List (List UInt8)) : Option (List Ply) := if l.length < 2 ∨ 32 < l.length then none else addN [] l
theorem newP_gd {l : List (List UInt8)} {r : List Ply} (h : newP l = some r) : Gd r 0 := by
  unfold newP at h
  by_cases hl : l.length < 2 ∨ 32 < l.length
  · rw [if_pos hl] at h; cases h
  · rw [if_neg hl] at h
    have hm := addN_map h
    rw [List.nil_append] at hm
    refine ⟨fun x hx => ?_, fun x hx => ?_, addN_nm h .nil, by rw [hm, List.length_map]; omega⟩
    all_goals
      rw [hm] at hx
      obtain ⟨n, _, rfl⟩ := List.mem_map.1 hx
      simp [mkN]
def NewQ (o : Option (List Ply)) (w : World) (e : Ending) (w' : World) : Prop := Kept [] w w' ∧ match o with
  | none => e = .returned (.tuple #[.pointer none, .int .i64 1])
  | some h => ∃ q v, e = .returned (.tuple #[.pointer (some ⟨q, 0, none⟩), .int .i64 0]) ∧ Ld w' q v 0 h ∧ w.heap.size ≤ q ∧ ∀ b, v.ownBlock = some b → w.heap.size ≤ b
structure NwI (w W : World) (v : Value) (out : List Ply) : Prop where
  b : Blk W w.heap.size [v, .int .i64 0] 52
  own : W.ownsRow (w.heap.size + 1) 39 5 v out.length (cel out)
  k : Kept [] w W
theorem NwI.ld {w W : World} {v : Value} {out : List Ply} (h : NwI w W v out) : Ld W w.heap.size v 0 out :=
  ⟨h.b, own_le h.own (Nat.zero_le _), fun e => by have := (h.own.lt _ e).1; omega⟩
theorem NwI.kept {w W W2 : World} {v : Value} {out : List Ply} (h : NwI w W v out) (hk : Kept [] W W2) : NwI w W2 v out :=
  ⟨hk.blk h.b (by simp), own_kept3 h.own (fun g cs _ hg => hk.block g (Array.getElem?_eq_some_iff.1 hg).1 (by simp)), h.k.trans0 hk⟩
set_option maxRecDepth 100000 in
set_option maxHeartbeats 12800000 in
theorem pnew_any (a : Option Addr) (c : Nat) (l : List (List UInt8)) (w : World) (hl : NmR w a l) (h60 : l.length ≤ 60) :
    Calls Try.prog 5 #[.slice a l.length c] w fun e w' => NewQ (newP l) w e w' := by
  by_cases hsz : l.length < 2 ∨ 32 < l.length
  · have hn : newP l = none := by unfold newP; rw [if_pos hsz]
    rw [hn]
    have hd : (decide ((l.length : Int) < 2) || decide ((32 : Int) < (l.length : Int))) = true := by
      rw [Bool.or_eq_true, decide_eq_true_iff, decide_eq_true_iff]
      omega
    generalize l.length = n at *
    clear hl hn
    rcases hsz with h | h
    · have h1 : (n : Int) < 2 := by omega
      clear hd h
      go_enter Try.func5, Try.ntmps5
      go_wp2
      go_ret2
      exact ⟨Kept.refl _ _, rfl⟩
    · have h1 : ¬ (n : Int) < 2 := by omega
      have h2 : (32 : Int) < (n : Int) := by omega
      clear hd h
      go_enter Try.func5, Try.ntmps5
      go_wp2
      go_ret2
      exact ⟨Kept.refl _ _, rfl⟩
  · have hn : newP l = addN [] l := by unfold newP; rw [if_neg hsz]
    obtain ⟨o, ho⟩ : ∃ o, newP l = o := ⟨_, rfl⟩
    rw [ho]
    rw [hn] at ho
    have HO := hx ho
    have HL := hx hl
    have h1 : ¬ (l.length : Int) < 2 := by omega
    have h2 : ¬ (32 : Int) < (l.length : Int) := by omega
    have h32 : l.length ≤ 32 := by omega
    generalize hm : l.length = n at *
    have HM := hx hm
    clear hl hn ho hsz hm
    go_enter Try.func5, Try.ntmps5
    go_wp2_with fail
    go_loopw [19] (fun iv wr => ∃ (i : Nat) (out : List Ply) (v : Value), iv = .int .i64 (i : Int) ∧ i ≤ n ∧ Hx (addN out (l.drop i) = o) ∧ out.length = i ∧ NwI w wr v out) (fun iv _ => n - (intOf iv).toNat)
    case atStart => exact ⟨0, [], .slice none 0 0, rfl, Nat.zero_le _, HO, rfl, ⟨Blk.new w _ _, World.ownsRow_nil _ _ _ 5, (Kept.refl [] w).alloc _⟩⟩
    case round =>
      obtain ⟨i, out, v, rfl, hi, hA, hol, hN⟩ := hrel
      have HN := hx hN
      have HOL := hx hol
      have HI := hx hi
      clear hN hol
      by_cases hlt : i < n
      · have hil : (i : Int) < (n : Int) := by omega
        obtain ⟨x, hxx⟩ : ∃ x, l[i]? = some x := ⟨_, List.getElem?_eq_getElem (by have := HM.out; omega)⟩
        obtain ⟨g, o9, rfl, _, hcl⟩ := (HL.out.kept HN.out.k).at_ i x hxx
        have HF := hx (find_any w.heap.size v 0 x out wr HN.out.ld (by have := HOL.out; omega))
        have hdr : l.drop i = x :: l.drop (i + 1) := by
          obtain ⟨h1, h2⟩ := List.getElem?_eq_some_iff.1 hxx
          rw [List.drop_eq_getElem_cons h1, h2]
        have HLT := hx hlt
        rw [hdr, addN] at hA
        clear hxx hdr hlt hi
        cases hp : plAt x out with
        | some j =>
          rw [hp] at hA
          have hfj : plV x out = (j : Int) := by unfold plV; rw [hp]
          rw [hfj] at HF
          have HON := hx hA.out.symm
          clear hA hp hfj
          go_wp2_with (go_at_call 16; refine HF.out.mono ?_; rintro e w1 ⟨rfl, hk⟩; have K1 := hx (HN.out.k.trans0 hk); clear hk)
          go_ret2
          rw [HON.out]
          exact ⟨K1.out, rfl⟩
        | none =>
          rw [hp] at hA
          have hfj : plV x out = -1 := by unfold plV; rw [hp]
          rw [hfj] at HF
          clear hp hfj
          obtain ⟨va, vc, rfl⟩ := own_slice HN.out.own
          have h32o : out.length < 32 := by have := HOL.out; have := HLT.out; omega
          have HO32 := hx h32o
          generalize hlo : out.length = m at *
          have HLO := hx hlo
          clear hlo
          go_wp2_with (first
            | (go_at_call 16; refine HF.out.mono ?_; rintro e w1 ⟨rfl, hk⟩; have N1 := hx (HN.out.kept hk); have c0 := N1.out.b.cell (i := 0) rfl; clear hk)
            | (at_builtin; refine wpList_app rfl (.tmp 31) (.tmp 34) 46 rfl (w.heap.size + 1) 39 (.agg #[.string ByteArray.empty, .int .i64 0, .int .i64 0, .int .i64 0, .int .i64 0]) 5 48 infoPl Try.underlying46 rfl (by omega) (.slice va m vc) m (cel out) rfl (World.ownsRow.alloc (by have h := N1.out.own; rw [HLO.out] at h; exact h) _) (some ⟨_, 0, none⟩) 1 1 (enc5 (mkN x)) rfl rfl (by simp) (by omega) (newsB (Blk.new w1 (enc5 (mkN x)) 39)) (one_enc5 _) (by have := HO32.out; simp [maxLen]; omega) (by have := HO32.out; omega) (by have := N1.out.b.lt; simp; omega) ?_; intro v8 w8 ho8 hg8; obtain ⟨g8, c8, rfl⟩ := own_some5 ho8; have HO8 := hx ho8; have HG8 := hx hg8; have B8 := hx (grown_blk hg8 (N1.out.b.alloc _) (fun e => by have := (N1.out.own.lt _ e.symm).1; omega)); clear c0; have c0 := B8.out.cell (i := 0) rfl; have f0 := B8.out.free 0; clear ho8 hg8))
          go_roundw
          case rel =>
            refine ⟨i + 1, out ++ [mkN x], .slice (some ⟨g8, 0, none⟩) (m + 1) c8, by push_cast; rfl, HLT.out, hA, by rw [List.length_append, HLO.out, HOL.out]; rfl, ⟨B8.out.set 0 _, ?_, ((N1.out.k.alloc _).grown HG8.out (fun j hj => .inr (by have := (N1.out.own.lt _ hj).1; omega))).setCell (.inr (by simp)) _⟩⟩
            rw [List.length_append, HLO.out, cel_snoc]
            refine own_kept3 HO8.out (fun gg cs hv _ => Below.heap_setCell _ _ _ _ ?_)
            have := (HO8.out.lt _ hv).1
            simp
            omega
          case measure =>
            simp only [intOf]
            have h := HLT.out
            omega
      · have hie : i = n := by omega
        subst hie
        have hil : ¬ ((i : Int) < (i : Int)) := by omega
        rw [List.drop_of_length_le (by have := HM.out; omega), addN] at hA
        have HON := hx hA.out.symm
        clear hA hi hlt
        go_wp2_with fail
        go_ret2
        rw [HON.out]
        exact ⟨HN.out.k, w.heap.size, v, rfl, HN.out.ld, Nat.le_refl _, fun b hb => by have := (HN.out.own.lt _ hb).1; omega⟩
end Go.Proofs.Ytimplkdmhndalaa
