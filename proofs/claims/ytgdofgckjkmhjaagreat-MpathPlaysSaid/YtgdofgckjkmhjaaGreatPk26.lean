/- A list of acts, as its cells tell. Steps of a region that draws its order: whole structs loaded and stored. The two ways of Played, the program's and the reference's, in their blocks. Chapter 15: is a sender the document's? Printed by k/gen_mpsm.py. -/
import Derived.Test.YtgdofgckjkmhjaaGreatPk11
import Derived.Test.YtgdofgckjkmhjaaGreatPk04
import Derived.Deep.Slices
import Derived.WideShapes
import Derived.Test.YtgdofgckjkmhjaaGreatPk02
import Derived.RegionTactic
import Derived.BigRegion
import Derived.Test.YtgdofgckjkmhjaaGreatPathRT
import Derived.Test.YtgdofgckjkmhjaaGreatPathRH
import Derived.Test.YtgdofgckjkmhjaaGreatPk21
set_option linter.unusedSimpArgs false
set_option linter.unusedVariables false
namespace Go.Proofs.YtgdofgckjkmhjaaGreat
open Go Go.RowKit Go.ChangeShapes Go.WideShapes Go.ChangeAt Go.Deep
structure Ac where
  kind : Int
  n : Nat
  ticks : Int
def acc (x : Ac) : List Value := [.int .i64 x.kind, .int .u32 x.n, .int .i64 x.ticks]
structure Acts (w : World) (a : Option Addr) (len cap : Nat) : Prop where
  hle : len ≤ cap
  htop : cap ≤ maxLen
  hcell : ∀ i, i < len → ∃ b off x, a = some ⟨b, off, none⟩ ∧ x.n < 4294967296 ∧ w.rangeAt b (off + i * 3) (acc x)
theorem Acts.kept {w w' : World} {a : Option Addr} {len cap : Nat} (h : Acts w a len cap) (hk : Kept [] w w') : Acts w' a len cap :=
  ⟨h.hle, h.htop, fun i hi => by
    obtain ⟨b, off, x, h1, h2, h3⟩ := h.hcell i hi
    exact ⟨b, off, x, h1, h2, hk.range h3 (by simp)⟩⟩
theorem Acts.nil (w : World) : Acts w none 0 0 := ⟨Nat.le_refl _, Nat.zero_le _, fun i hi => by omega⟩
theorem Acts.at {w : World} {a : Option Addr} {len cap : Nat} (h : Acts w a len cap) (i : Nat) (hi : i < len) : ∃ b off x, a = some ⟨b, off, none⟩ ∧ x.n < 4294967296 ∧ w.rangeAt b (off + i * 3) (acc x) := h.hcell i hi
end Go.Proofs.YtgdofgckjkmhjaaGreat
namespace Go.Proofs.YtgdofgckjkmhjaaGreat
/-- The gap between tries is none or ten ticks at least. -/
def GapOk (p : Pa) : Prop := p.gap = 0 ∨ 10 ≤ p.gap
theorem gap0 : GapOk pa0 := .inl rfl
theorem gap_tick (p : Pa) (h : GapOk p) : GapOk (tickP p).1 := by
  unfold tickP
  split
  · exact .inl rfl
  · split
    · exact .inr (by simp)
    · split
      · exact h
      · unfold GapOk at *; simp only; omega
theorem gap_heard (p : Pa) (n : Nat) : GapOk (heardP p n).1 := by
  unfold heardP
  split <;> exact .inl rfl
theorem gap_trip (p : Pa) (s : St) (h : GapOk p) : GapOk { p with s := s } := h
theorem gap_next (p : Pa) (n : Nat) (h : GapOk p) : GapOk { p with next := n } := h
/-- So many ticks went by without a word; 'last' is when it was tried last. -/
structure Tr (q0 : Int) (k t : Int) (q : Pa) (i : Nat) (last : Int) : Prop where
  quiet : q.quiet = q0 + i
  gap : GapOk q
  ok : PaOk q k (t + i)
  lst : last = -1 ∨ (0 ≤ last ∧ last < i ∧ 5 ≤ q.gap ∧ 20 ≤ q.quiet ∧ 1 ≤ q.probe ∧ 5 ≤ q.probe + (i - 1 - last) ∧ q.probe + (i - 1 - last) ≤ 80)
theorem Tr.zero (p : Pa) (k t : Int) (h : PaOk p k t) (g : GapOk p) : Tr p.quiet k t p 0 (-1) := ⟨by omega, g, by simpa using h, .inl rfl⟩
theorem Tr.no {q0 k t : Int} {q : Pa} {i : Nat} {last : Int} (h : Tr q0 k t q i last) (hf : (tickP q).2 = false) : Tr q0 k t (tickP q).1 (i + 1) last ∧ (0 ≤ last → (i : Int) - last < 80) := by
  have hok := tick_ok q k _ h.ok
  have hg := gap_tick q h.gap
  have hok' : PaOk (tickP q).1 k (t + ((i + 1 : Nat) : Int)) := hok.mono (by omega) (by omega)
  have hq := h.quiet
  have hl := h.lst
  refine ⟨⟨?_, hg, hok', ?_⟩, ?_⟩
  · unfold tickP
    split
    · simp only; omega
    · split
      · simp only; omega
      · split
        · simp only; omega
        · simp only; omega
  · rcases hl with hl | ⟨h1, h2, h3, h4, h5, h6, h7⟩
    · exact .inl hl
    · right
      unfold tickP at hf ⊢
      rw [if_neg (by omega), if_neg (by omega)] at hf ⊢
      split at hf
      · rename_i hp
        rw [if_pos hp]
        simp only
        omega
      · simp at hf
  · intro h0
    rcases hl with hl | ⟨h1, h2, h3, h4, h5, h6, h7⟩
    · omega
    · unfold tickP at hf
      rw [if_neg (by omega), if_neg (by omega)] at hf
      split at hf
      · omega
      · simp at hf
theorem Tr.yes {q0 k t : Int} {q : Pa} {i : Nat} {last : Int} (h : Tr q0 k t q i last) (hf : (tickP q).2 = true) : Tr q0 k t (tickP q).1 (i + 1) i ∧ 20 ≤ q0 + i + 1 ∧ (0 ≤ last → 5 ≤ (i : Int) - last) := by
  have hok := tick_ok q k _ h.ok
  have hg := gap_tick q h.gap
  have hok' : PaOk (tickP q).1 k (t + ((i + 1 : Nat) : Int)) := hok.mono (by omega) (by omega)
  have hq := h.quiet
  have hl := h.lst
  have hgap := h.gap
  unfold GapOk at hgap
  have hg80 := h.ok.gap.2
  have h20 : 20 ≤ q.quiet + 1 := by
    unfold tickP at hf
    split at hf
    · simp at hf
    · omega
  refine ⟨⟨?_, hg, hok', ?_⟩, by omega, ?_⟩
  · unfold tickP
    split
    · simp only; omega
    · split
      · simp only; omega
      · split
        · simp only; omega
        · simp only; omega
  · right
    unfold tickP at hf ⊢
    rw [if_neg (by omega)] at hf ⊢
    split at hf
    · rename_i hp
      rw [if_pos hp]
      simp only
      omega
    · rename_i hp
      rw [if_neg hp]
      split at hf
      · simp at hf
      · rename_i hr
        rw [if_neg hr]
        simp only
        omega
  · intro h0
    rcases hl with hl | ⟨h1, h2, h3, h4, h5, h6, h7⟩
    · omega
    · unfold tickP at hf
      rw [if_neg (by omega), if_neg (by omega)] at hf
      split at hf
      · simp at hf
      · omega
theorem heard_quiet (p : Pa) (n : Nat) : (heardP p n).1.quiet = 0 := by unfold heardP; split <;> rfl
theorem tick_0 (p : Pa) (h : p.quiet = 0) : (tickP p).2 = false := by unfold tickP; rw [if_pos (by omega)]
end Go.Proofs.YtgdofgckjkmhjaaGreat
namespace Go.Proofs.YtgdofgckjkmhjaaGreat
open Go Go.RowKit
theorem step_load {P : Program} {ops : Array Oper} {o : Oper} {a : Act} {w : World} {K : Act → World → Prop} {Q : Exit → Act → World → Prop} {E : Prop} (hg : o.guard = none) (ty : TypeId) (x : Operand) (ho : o.op = .load ty x)
    (b k : Nat) (hx : a.eval x = .pointer (some ⟨b, k, none⟩)) (T : TypeId) (xs cs : List Value) (d : TypeDesc) (hb : Blk w b xs T) (hp : Part xs k cs)
    (hu : P.underlying ty = some d) (hd : d.isRow = true) (hi : (P.info? ty).map (·.size) = some cs.length)
    (hK : K (a.put o.dst (.agg cs.toArray)) w) : if Region.wanted o (yielded ops a.tmps) = true then Oper.wp P o a w K Q else E := by
  rw [if_pos (by simp [Region.wanted, hg])]
  exact wp_load_mid ty x ho b k hx cs d (hp.range hb) hu hd hi hK
theorem step_store {P : Program} {ops : Array Oper} {o : Oper} {a : Act} {w : World} {K : Act → World → Prop} {Q : Exit → Act → World → Prop} {E : Prop} (hg : o.guard = none) (ty : TypeId) (x y : Operand) (ho : o.op = .store ty x y)
    (b k : Nat) (hx : a.eval x = .pointer (some ⟨b, k, none⟩)) (T : TypeId) (xs ys : List Value) (hy : a.eval y = .agg ys.toArray) (hb : Blk w b xs T) (hl : k + ys.length ≤ xs.length)
    (hi : (P.info? ty).map (·.size) = some ys.length) (h1 : ∀ v ∈ ys, v.oneCell' = true)
    (hK : ∀ w', Blk w' b (setAll xs k ys) T → Kept [b] w w' → K (a.put o.dst undef) w') : if Region.wanted o (yielded ops a.tmps) = true then Oper.wp P o a w K Q else E := by
  rw [if_pos (by simp [Region.wanted, hg])]
  exact wp_store_mid ty x y ho b k ys.toArray hx hy (hb.there (by simpa using hl)) (by simpa using hi) (all_oneCell_toArray h1)
    (hK _ (hb.setCells k ys) ((Kept.refl _ _).setCells (by simp) k _))
theorem step_assign {P : Program} {ops : Array Oper} {o : Oper} {a : Act} {w : World} {K : Act → World → Prop} {Q : Exit → Act → World → Prop} {E : Prop} (hg : o.guard = none) (x : Operand) (ho : o.op = .assign x) (hK : K (a.put o.dst (a.eval x)) w) :
    if Region.wanted o (yielded ops a.tmps) = true then Oper.wp P o a w K Q else E := by
  rw [if_pos (by simp [Region.wanted, hg])]
  unfold Oper.wp
  simp [execOp, ho]
  exact hK
end Go.Proofs.YtgdofgckjkmhjaaGreat
namespace Go.Proofs.YtgdofgckjkmhjaaGreat
open Go Go.RowKit
theorem pac_one (p : Pa) : ∀ v ∈ pac p, v.oneCell' = true := by
  intro v hv
  simp only [pac, stc, snc, List.mem_append, List.mem_cons, List.not_mem_nil, or_false] at hv
  rcases hv with ((h | h | h | h | h) | (h | h | h | h | h | h)) | h | h | h | h <;> (rw [h]; rfl)
theorem infoPan (p : Pa) : (Tryz.prog.info? 71).map (·.size) = some (pac p).length := by rw [pac_len]; kernel_rfl
theorem zeroPa (w : World) : (zeroValue 71).run Tryz.prog w = .ok (.agg (pac pa0).toArray) w := by kernel_rfl
theorem zeroPa' : ∃ Z : Array Value, Z.toList = pac pa0 ∧ ∀ w, (zeroValue 71).run Tryz.prog w = .ok (.agg Z) w := ⟨_, rfl, zeroPa⟩
theorem acc_len (x : Ac) : (acc x).length = 3 := rfl
theorem acc_one (x : Ac) : ∀ v ∈ acc x, v.oneCell' = true := by
  intro v hv
  simp only [acc, List.mem_cons, List.not_mem_nil, or_false] at hv
  rcases hv with h | h | h <;> (rw [h]; rfl)
theorem set_pac (p q : Pa) : setAll (pac p) 0 (pac q) = pac q := setAll_all _ _ rfl
theorem set_pac_s (p : Pa) (s : St) : setAll (pac p) 0 (stc s) = pac { p with s := s } := by rw [pac_set_s (Part.all (pac p)), set_pac]
theorem pac_any_part (p : Pa) : Part (pac p) 0 (stc p.s) := pac_s (Part.all _)
theorem ptick (b : Nat) (p : Pa) (w : World) (k t : Int) (hb : Blk w b (pac p) 71) (h : PaOk p k t) (ht : t ≤ 1000000) :
    Calls Tryz.prog 62 #[.pointer (some ⟨b, 0, none⟩)] w fun e w' => e = .returned (.bool (tickP p).2) ∧ Blk w' b (pac (tickP p).1) 71 ∧ Kept [b] w w' := by
  refine (tick_any b 0 (pac p) _ p w hb (Part.all _) h.quiet.1 (by have := h.quiet.2; omega) h.gap.1 h.gap.2 h.probe.1 h.probe.2).mono ?_
  rintro e w' ⟨rfl, h2, h3⟩
  rw [set_pac] at h2
  exact ⟨rfl, h2, h3⟩
theorem pheard (b n : Nat) (p : Pa) (w : World) (k t : Int) (hb : Blk w b (pac p) 71) (h : PaOk p k t) (hk : k ≤ 100) (hn : n < 4294967296) :
    Calls Tryz.prog 64 #[.pointer (some ⟨b, 0, none⟩), .int .u32 n] w fun e w' => e = .returned (.int .i64 (heardP p n).2) ∧ Blk w' b (pac (heardP p n).1) 71 ∧ Kept [b] w w' := by
  refine (heard_any b 0 n (pac p) _ p w hb (Part.all _) (h.s.mono (by omega)) (h.seen.mono hk) hn).mono ?_
  rintro e w' ⟨rfl, h2, h3⟩
  rw [set_pac] at h2
  exact ⟨rfl, h2, h3⟩
theorem pnumber (b : Nat) (p : Pa) (w : World) (hb : Blk w b (pac p) 71) (hn : p.next < 4294967296) :
    Calls Tryz.prog 50 #[.pointer (some ⟨b, 0, none⟩)] w fun e w' => e = .returned (.int .u32 p.next) ∧ Blk w' b (pac { p with next := nextU p.next }) 71 ∧ Kept [b] w w' := by
  refine (number_any b 0 (pac p) _ p w hb (Part.all _) hn).mono ?_
  rintro e w' ⟨rfl, h2, h3⟩
  rw [set_pac] at h2
  exact ⟨rfl, h2, h3⟩
theorem ptrip (b : Nat) (x : Int) (p : Pa) (w : World) (k t : Int) (hb : Blk w b (pac p) 71) (h : PaOk p k t) (hk : k ≤ 100) :
    Calls Tryz.prog 67 #[.pointer (some ⟨b, 0, none⟩), .int .i64 x] w fun e w' => e = .returned (.tuple #[]) ∧ Blk w' b (pac { p with s := tripS p.s x }) 71 ∧ Kept [b] w w' := by
  refine (trip_any b 0 (pac p) _ p.s x w hb (pac_any_part p) (h.s.mono (by omega))).mono ?_
  rintro e w' ⟨rfl, h2, h3⟩
  rw [set_pac_s] at h2
  exact ⟨rfl, h2, h3⟩
theorem rtick (p : Pa) (w : World) (k t : Int) (h : PaOk p k t) (ht : t ≤ 1000000) :
    Calls Tryz.prog 57 #[.agg (rpc p).toArray] w fun e w' => e = .returned (.tuple #[.agg (rpc (tickP p).1).toArray, .bool (tickP p).2]) ∧ Kept [] w w' :=
  rtick_any p w h.quiet.1 (by have := h.quiet.2; omega) h.gap.1 h.gap.2 h.probe.1 h.probe.2
theorem rheard (n : Nat) (p : Pa) (w : World) (k t : Int) (h : PaOk p k t) (hk : k ≤ 100) (hn : n < 4294967296) :
    Calls Tryz.prog 37 #[.agg (rpc p).toArray, .int .u32 n] w fun e w' => e = .returned (.tuple #[.agg (rpc (heardP p n).1).toArray, .int .i64 (heardP p n).2]) ∧ Kept [] w w' :=
  rheard_any n p w (h.s.mono (by omega)) (h.seen.mono hk) hn
theorem rtrip (x : Int) (p : Pa) (w : World) (k t : Int) (h : PaOk p k t) (hk : k ≤ 100) :
    Calls Tryz.prog 68 #[.agg (stc p.s).toArray, .int .i64 x] w fun e w' => e = .returned (.agg (stc (tripS p.s x)).toArray) ∧ Kept [] w w' :=
  rtrip_any p.s x w (h.s.mono (by omega))
/-- The four blocks of Played, from block n on: the results', and the ways p and q. -/
structure PlW (w wr : World) (p q : Pa) : Prop where
  r0 : Blk wr w.heap.size (pac pa0) 71
  r1 : Blk wr (w.heap.size + 1) (rpc pa0) 34
  b : Blk wr (w.heap.size + 1 + 1) (pac p) 71
  e : Blk wr (w.heap.size + 1 + 1 + 1) (rpc q) 34
  k : Kept [] w wr
theorem PlW.kept {w wr w2 : World} {p q : Pa} (h : PlW w wr p q) (hk : Kept [] wr w2) : PlW w w2 p q :=
  ⟨hk.blk h.r0 (by simp), hk.blk h.r1 (by simp), hk.blk h.b (by simp), hk.blk h.e (by simp), h.k.trans0 hk⟩
theorem PlW.new {w wr w2 : World} {p q : Pa} {g : Nat} (h : PlW w wr p q) (hk : Kept [g] wr w2) (hg : wr.heap.size ≤ g) : PlW w w2 p q :=
  h.kept (hk.mono (fun x hx => by simp at hx; subst hx; exact .inr hg))
theorem PlW.setp {w wr w2 : World} {p q p' : Pa} (h : PlW w wr p q) (hb : Blk w2 (w.heap.size + 1 + 1) (pac p') 71) (hk : Kept [w.heap.size + 1 + 1] wr w2) : PlW w w2 p' q :=
  ⟨hk.blk h.r0 (by simp <;> omega), hk.blk h.r1 (by simp <;> omega), hb, hk.blk h.e (by simp <;> omega), Kept.behind h.k hk (by omega)⟩
theorem PlW.setq {w wr w2 : World} {p q q' : Pa} (h : PlW w wr p q) (hb : Blk w2 (w.heap.size + 1 + 1 + 1) (rpc q') 34) (hk : Kept [w.heap.size + 1 + 1 + 1] wr w2) : PlW w w2 p q' :=
  ⟨hk.blk h.r0 (by simp <;> omega), hk.blk h.r1 (by simp <;> omega), hk.blk h.b (by simp <;> omega), hb, Kept.behind h.k hk (by omega)⟩
theorem PlW.lt {w wr : World} {p q : Pa} (h : PlW w wr p q) : w.heap.size + 1 + 1 + 1 < wr.heap.size := h.e.lt
theorem Acts.wr {w wr : World} {p q : Pa} {a : Option Addr} {n c : Nat} (h : Acts w a n c) (k : PlW w wr p q) : Acts wr a n c := h.kept k.k
theorem Kept.fresh {w w2 : World} {g : Nat} (hk : Kept [g] w w2) (hg : w.heap.size ≤ g) : Kept [] w w2 := hk.mono (fun x hx => by simp at hx; subst hx; exact .inr hg)
theorem PlW.start (w : World) (Z Y : Array Value) (hZ : Z.toList = pac pa0) (hY : Y.toList = rpc pa0) :
    PlW w ((((w.alloc (.cells Z 71)).alloc (.cells Y 34)).alloc (.cells Z 71)).alloc (.cells Y 34)) pa0 pa0 := by
  have h0 := Blk.new' w Z 71
  have h1 := Blk.new' (w.alloc (.cells Z 71)) Y 34
  have h2 := Blk.new' ((w.alloc (.cells Z 71)).alloc (.cells Y 34)) Z 71
  have h3 := Blk.new' (((w.alloc (.cells Z 71)).alloc (.cells Y 34)).alloc (.cells Z 71)) Y 34
  rw [hZ] at h0 h2
  rw [hY] at h1 h3
  have s1 : ∀ (w : World) o, (w.alloc o).heap.size = w.heap.size + 1 := by intro w o; simp
  rw [s1] at h1
  rw [s1, s1] at h2
  rw [s1, s1, s1] at h3
  exact ⟨((h0.alloc _).alloc _).alloc _, (h1.alloc _).alloc _, h2.alloc _, h3, ((((Kept.refl [] w).alloc _).alloc _).alloc _).alloc _⟩
theorem ret_blk3 {P : Program} {w : World} {fn : Func} {p p2 q : Tmp} {ty ty2 : TypeId} (h : fn.results = #[.cell p ty, .cell p2 ty2, .tmp q]) (tmps : Array Value) (g g2 : Nat) (T T2 : TypeId) (xs ys : List Value) (v : Value) (d d2 : TypeDesc)
    (hp : tmps.getD p undef = .pointer (some ⟨g, 0, none⟩)) (hp2 : tmps.getD p2 undef = .pointer (some ⟨g2, 0, none⟩)) (hq : tmps.getD q undef = v) (hb : Blk w g xs T) (hb2 : Blk w g2 ys T2)
    (hu : P.underlying ty = some d) (hd : (match d with | .struct _ | .array _ _ => true | _ => false) = true) (hi : (P.info? ty).map (·.size) = some xs.length)
    (hu2 : P.underlying ty2 = some d2) (hd2 : (match d2 with | .struct _ | .array _ _ => true | _ => false) = true) (hi2 : (P.info? ty2).map (·.size) = some ys.length) :
    (results fn tmps).run P w = .ok (.tuple #[.agg xs.toArray, .agg ys.toArray, v]) w := by
  have hp' : tmps[p]?.getD undef = .pointer (some ⟨g, 0, none⟩) := by simpa using hp
  have hp2' : tmps[p2]?.getD undef = .pointer (some ⟨g2, 0, none⟩) := by simpa using hp2
  have hq' : tmps[q]?.getD undef = v := by simpa using hq
  simp [results, h, hp', hp2', hq', asAddr, run_loadVar_row w g T ty xs.toArray (0, 0) d hb hu hd (by simpa using hi), run_loadVar_row w g2 T2 ty2 ys.toArray (0, 0) d2 hb2 hu2 hd2 (by simpa using hi2)]
/-- .. with what the results' blocks hold. -/
structure PlY (w wr : World) (x y p : Pa) : Prop where
  r0 : Blk wr w.heap.size (pac x) 71
  r1 : Blk wr (w.heap.size + 1) (rpc y) 34
  b : Blk wr (w.heap.size + 1 + 1) (pac p) 71
  e : Blk wr (w.heap.size + 1 + 1 + 1) (rpc p) 34
  k : Kept [] w wr
theorem PlW.y {w wr : World} {p : Pa} (h : PlW w wr p p) : PlY w wr.drew pa0 pa0 p := ⟨h.r0, h.r1, h.b, h.e, h.k.drew⟩
theorem PlY.set0 {w wr w2 : World} {x y p x' : Pa} (h : PlY w wr x y p) (hb : Blk w2 w.heap.size (setAll (pac x) 0 (pac x')) 71) (hk : Kept [w.heap.size] wr w2) : PlY w w2 x' y p :=
  ⟨by rw [set_pac] at hb; exact hb, hk.blk h.r1 (by simp), hk.blk h.b (by simp <;> omega), hk.blk h.e (by simp <;> omega), Kept.behind h.k hk (by omega)⟩
theorem PlY.set1 {w wr w2 : World} {x y p y' : Pa} (h : PlY w wr x y p) (hb : Blk w2 (w.heap.size + 1) (setAll (rpc y) 0 (rpc y')) 34) (hk : Kept [w.heap.size + 1] wr w2) : PlY w w2 x y' p :=
  ⟨hk.blk h.r0 (by simp), by rw [setAll_all _ _ (rpc_len2 _ _)] at hb; exact hb, hk.blk h.b (by simp <;> omega), hk.blk h.e (by simp <;> omega), Kept.behind h.k hk (by omega)⟩
end Go.Proofs.YtgdofgckjkmhjaaGreat
namespace Go.Proofs.YtgdofgckjkmhjaaGreat.Mp
open Go Go.RowKit
open Qd (dvl dv0 dvl_one infoDg step_of take_by)
set_option linter.unusedSimpArgs false in
set_option maxRecDepth 100000 in
set_option maxHeartbeats 12800000 in
theorem lSame_m (s b q : Nat) (v : Value) (m : Ms) (sd : List Qd.It) (a : Option Addr) (c : Nat) (w : World) (k t : Int) (r : Sr w s b q v m) (o : Ok m k t) (hl : sd.length = m.s.length) :
    Calls Tryz.prog 11 #[.pointer (some ⟨s, 0, none⟩), .agg (rsd { m with s := sd } a c).toArray] w fun e w' => e = .returned (.bool true) ∧ Kept [] w w' := by
  have HR := hx r
  have HW0 := hx hl
  have HO := hx o
  have B0 := hx (Blk.new w (rsd { m with s := sd } a c) 40)
  have K0 := hx ((Kept.refl [] w).alloc (.cells (rsd { m with s := sd } a c).toArray 40))
  clear r hl o
  go_enter Tryz.func11, Tryz.ntmps11
  go_upto_region 1 with fail
  generalize hw1 : World.alloc w _ = w1
  have B1 := hx (show Blk w1 w.heap.size (rsd { m with s := sd } a c) 40 from by rw [← hw1]; exact B0.out)
  have K1 := hx (show Kept [] w w1 from by rw [← hw1]; exact K0.out)
  have R1 := hx (HR.out.kept K1.out)
  clear hw1 B0 K0
  go_wp2_with fail
  go_loopw [5] (fun s5 wr => ∃ i : Nat, s5 = .int .i64 (i : Int) ∧ i ≤ 2 ∧ Hx (Kept [] w1 wr)) (fun s5 _ => 2 - (intOf s5).toNat)
  case atStart => exact ⟨0, rfl, by omega, hx (Kept.refl _ _)⟩
  case round =>
    obtain ⟨i, rfl, hi, HK⟩ := hrel
    have R2 := hx (R1.out.kept HK.out)
    have B2 := hx (HK.out.blk B1.out (by simp))
    by_cases hlt : i < 2
    · have hil : (i : Int) < 2 := by omega
      have HIL := hx hlt
      have HC := hx (fun (W : World) (_ : Kept [] wr W) => lsame14 (m.way i) W (HO.out.way i).seen.bits)
      have HSK := hx (fun (W : World) (hk : Kept [] wr W) => show (fun w3 => w3.rangeAt s (i * 15) (pac (m.way i)) ∧ w3.rangeAt w.heap.size (i * 78) (rpc (m.way i))) W from ⟨hk.range ((part_way m b q HIL.out).range R2.out.hs) (by simp), hk.range ((rsd_way { m with s := sd } a c HIL.out).range B2.out) (by simp)⟩)
      clear hlt hi
      go_upto_region 4 with fail
      refine wp_region_held_drew (S := (fun w3 => w3.rangeAt s (i * 15) (pac (m.way i)) ∧ w3.rangeAt w.heap.size (i * 78) (rpc (m.way i)))) (by kernel_rfl) (HSK.out _ (Kept.drew (Kept.refl [] _))) (fun hHeld => ?_)
      refine take_by 0 10 (v := ?_) rfl rfl (by kernel_rfl) (by kernel_rfl) (by kernel_rfl) (fun _ _ _ h => h) (Or.inl ⟨by rfl, ?_⟩) (by assumption) ?_
      rotate_left
      · (intro w hSw; (try dsimp only at hSw); go_simp; try with_reducible rfl)
      try simp only [List.setIfInBounds_toArray, List.set_cons_zero, List.set_cons_succ]
      refine take_by 1 11 (v := ?_) rfl rfl (by kernel_rfl) (by kernel_rfl) (by kernel_rfl) (fun _ _ _ h => h) (Or.inl ⟨by rfl, ?_⟩) (by assumption) ?_
      rotate_left
      · (intro w hSw; (try dsimp only at hSw); go_simp; try with_reducible rfl)
      try simp only [List.setIfInBounds_toArray, List.set_cons_zero, List.set_cons_succ]
      refine take_by 2 12 (v := ?_) rfl rfl (by kernel_rfl) (by kernel_rfl) (by kernel_rfl) (fun _ _ _ h => h) (Or.inl ⟨by rfl, ?_⟩) (by assumption) ?_
      rotate_left
      · (intro w hSw; (try dsimp only at hSw); go_simp; try with_reducible rfl)
      try simp only [List.setIfInBounds_toArray, List.set_cons_zero, List.set_cons_succ]
      refine take_by 3 13 (v := ?_) rfl rfl (by kernel_rfl) (by kernel_rfl) (by kernel_rfl) (fun _ _ _ h => h) (Or.inl ⟨by rfl, ?_⟩) (by assumption) ?_
      rotate_left
      · (intro w hSw; (try dsimp only at hSw); go_simp; try with_reducible rfl)
      try simp only [List.setIfInBounds_toArray, List.set_cons_zero, List.set_cons_succ]
      refine take_by 4 14 (v := ?_) rfl rfl (by kernel_rfl) (by kernel_rfl) (by kernel_rfl) (fun _ _ _ h => h) (Or.inl ⟨by rfl, ?_⟩) (by assumption) ?_
      rotate_left
      · (intro w hSw; (try dsimp only at hSw); go_simp; try with_reducible rfl)
      try simp only [List.setIfInBounds_toArray, List.set_cons_zero, List.set_cons_succ]
      refine take_by 5 15 (v := .agg (pac (m.way i)).toArray) rfl rfl (by kernel_rfl) (by kernel_rfl) (by kernel_rfl) (fun _ _ _ h => h) (yieldsIf_load_mid (by rfl) 71 (.tmp 14) rfl s (i * 15) rfl (pac (m.way i)) _ (fun _ hS => hS.1) Tryz.underlying71 rfl (by kernel_rfl)) (by assumption) ?_
      try simp only [List.setIfInBounds_toArray, List.set_cons_zero, List.set_cons_succ]
      refine take_by 6 16 (v := ?_) rfl rfl (by kernel_rfl) (by kernel_rfl) (by kernel_rfl) (fun _ _ _ h => h) (Or.inl ⟨by rfl, ?_⟩) (by assumption) ?_
      rotate_left
      · (intro w hSw; (try dsimp only at hSw); go_simp; try with_reducible rfl)
      try simp only [List.setIfInBounds_toArray, List.set_cons_zero, List.set_cons_succ]
      refine take_by 7 17 (v := ?_) rfl rfl (by kernel_rfl) (by kernel_rfl) (by kernel_rfl) (fun _ _ _ h => h) (Or.inl ⟨by rfl, ?_⟩) (by assumption) ?_
      rotate_left
      · (intro w hSw; (try dsimp only at hSw); go_simp; try with_reducible rfl)
      try simp only [List.setIfInBounds_toArray, List.set_cons_zero, List.set_cons_succ]
      refine take_by 8 18 (v := ?_) rfl rfl (by kernel_rfl) (by kernel_rfl) (by kernel_rfl) (fun _ _ _ h => h) (Or.inl ⟨by rfl, ?_⟩) (by assumption) ?_
      rotate_left
      · (intro w hSw; (try dsimp only at hSw); go_simp; try with_reducible rfl)
      try simp only [List.setIfInBounds_toArray, List.set_cons_zero, List.set_cons_succ]
      refine take_by 9 19 (v := .agg (rpc (m.way i)).toArray) rfl rfl (by kernel_rfl) (by kernel_rfl) (by kernel_rfl) (fun _ _ _ h => h) (yieldsIf_load_mid (by rfl) 34 (.tmp 18) rfl w.heap.size (i * 78) rfl (rpc (m.way i)) _ (fun _ hS => hS.2) Tryz.underlying34 rfl (infoRpn _)) (by assumption) ?_
      try simp only [List.setIfInBounds_toArray, List.set_cons_zero, List.set_cons_succ]
      refine wpAnyH_ready (rs := [10]) (by kernel_rfl) (by simp) ?_
      refine AllReadyH.cons rfl (fun K hK => ?_) AllReadyH.nil
      go_simp
      (go_at_call 26; refine (HC.out _ (Kept.drew (Kept.refl [] _))).mono ?_; rintro e w4 ⟨rfl, hk4⟩; have K4 := hx (show Kept [] wr w4 from (Kept.drew (Kept.refl [] _)).trans0 hk4); clear hk4)
      refine hK.out _ _ (HSK.out _ K4.out) (fun hHeld => ?_)
      clear hK K
      try simp only [Act.put, List.setIfInBounds_toArray, List.set_cons_zero, List.set_cons_succ]
      refine take_by 11 21 (v := ?_) rfl rfl (by kernel_rfl) (by kernel_rfl) (by kernel_rfl) (fun _ _ _ h => h) (Or.inl ⟨by rfl, ?_⟩) (by assumption) ?_
      rotate_left
      · (intro w hSw; (try dsimp only at hSw); go_simp; try with_reducible rfl)
      try simp only [List.setIfInBounds_toArray, List.set_cons_zero, List.set_cons_succ]
      refine wpAnyH_done (by kernel_rfl) ?_ _
      go_wp2_with fail
      go_roundw
      case rel => exact ⟨i + 1, by push_cast; rfl, by have := HIL.out; omega, hx (HK.out.trans0 K4.out)⟩
      case measure =>
        simp only [intOf]
        have := HIL.out
        omega
    · obtain rfl : i = 2 := by omega
      clear hlt hi
      have HW := hx (fun (W : World) (hk : Kept [] wr W) => show Calls Tryz.prog 9 #[.pointer (some ⟨s, 0, none⟩)] W (fun e w' => e = .returned (.int .i64 (sd.length : Int)) ∧ W = w') from by
        rw [HW0.out]
        exact waiting_m s b q v m W (R2.out.kept hk))
      have HD := hx (fun (W : World) (hk : Kept [] wr W) => dropped_m s b q v m W (R2.out.kept hk))
      have HH := hx (fun (W : World) (hk : Kept [] wr W) => held_m s b q v m W (R2.out.kept hk))
      have HN := hx (fun (W : World) (hk : Kept [] wr W) => now_m s b q v m W (R2.out.kept hk))
      have HB := hx (fun (W : World) (hk : Kept [] wr W) => lbucket_m s b q v m W (R2.out.kept hk))
      have HS6 := hx (fun (W : World) (hk : Kept [] wr W) => show (fun w3 => w3.cell? ⟨w.heap.size, 161, none⟩ = some (.slice a sd.length c) ∧ w3.cell? ⟨w.heap.size, 165, none⟩ = some (.int .i64 m.drop) ∧ w3.cell? ⟨w.heap.size, 166, none⟩ = some (.int .i64 m.hold) ∧ w3.cell? ⟨w.heap.size, 164, none⟩ = some (.int .u32 m.now) ∧ w3.rangeAt w.heap.size 156 (bkc m.rt m.burst m.held m.spent m.full)) W from ⟨(hk.blk B2.out (by simp)).cell (rsd_at { m with s := sd } a c 5), (hk.blk B2.out (by simp)).cell (rsd_at { m with s := sd } a c 9), (hk.blk B2.out (by simp)).cell (rsd_at { m with s := sd } a c 10), (hk.blk B2.out (by simp)).cell (rsd_at { m with s := sd } a c 8), (rsd_bk { m with s := sd } a c).range (hk.blk B2.out (by simp))⟩)
      go_upto_region 6 with fail
      refine wp_region_held_drew (S := (fun w3 => w3.cell? ⟨w.heap.size, 161, none⟩ = some (.slice a sd.length c) ∧ w3.cell? ⟨w.heap.size, 165, none⟩ = some (.int .i64 m.drop) ∧ w3.cell? ⟨w.heap.size, 166, none⟩ = some (.int .i64 m.hold) ∧ w3.cell? ⟨w.heap.size, 164, none⟩ = some (.int .u32 m.now) ∧ w3.rangeAt w.heap.size 156 (bkc m.rt m.burst m.held m.spent m.full))) (by kernel_rfl) (HS6.out _ (Kept.drew (Kept.refl [] _))) (fun hHeld => ?_)
      refine take_by 0 22 (v := ?_) rfl rfl (by kernel_rfl) (by kernel_rfl) (by kernel_rfl) (fun _ _ _ h => h) (Or.inl ⟨by rfl, ?_⟩) (by assumption) ?_
      rotate_left
      · (intro w hSw; (try dsimp only at hSw); go_simp; try with_reducible rfl)
      try simp only [List.setIfInBounds_toArray, List.set_cons_zero, List.set_cons_succ]
      refine take_by 2 24 (v := ?_) rfl rfl (by kernel_rfl) (by kernel_rfl) (by kernel_rfl) (fun _ _ _ h => h) (Or.inl ⟨by rfl, ?_⟩) (by assumption) ?_
      rotate_left
      · (intro w hSw; (try dsimp only at hSw); go_simp; try with_reducible rfl)
      try simp only [List.setIfInBounds_toArray, List.set_cons_zero, List.set_cons_succ]
      refine take_by 3 25 (v := ?_) rfl rfl (by kernel_rfl) (by kernel_rfl) (by kernel_rfl) (fun _ _ _ h => h) (Or.inl ⟨by rfl, ?_⟩) (by assumption) ?_
      rotate_left
      · (intro w hSw; (try dsimp only at hSw); go_simp; try with_reducible rfl)
      try simp only [List.setIfInBounds_toArray, List.set_cons_zero, List.set_cons_succ]
      refine take_by 4 26 (v := ?_) rfl rfl (by kernel_rfl) (by kernel_rfl) (by kernel_rfl) (fun _ _ _ h => h) (Or.inl ⟨by rfl, ?_⟩) (by assumption) ?_
      rotate_left
      · (intro w hSw; (try dsimp only at hSw); go_simp; try with_reducible rfl)
      try simp only [List.setIfInBounds_toArray, List.set_cons_zero, List.set_cons_succ]
      refine wpAnyH_ready (rs := [1]) (by kernel_rfl) (by simp) ?_
      refine AllReadyH.cons rfl (fun K hK => ?_) AllReadyH.nil
      go_simp
      (go_at_call 9; refine (HW.out _ (Kept.drew (Kept.refl [] _))).mono ?_; rintro e w5 ⟨rfl, rfl⟩; have K5 := hx (Kept.drew (Kept.refl [] wr)))
      refine hK.out _ _ (HS6.out _ K5.out) (fun hHeld => ?_)
      clear hK K
      try simp only [Act.put, List.setIfInBounds_toArray, List.set_cons_zero, List.set_cons_succ]
      refine take_by 5 27 (v := ?_) rfl rfl (by kernel_rfl) (by kernel_rfl) (by kernel_rfl) (fun _ _ _ h => h) (Or.inl ⟨by rfl, ?_⟩) (by assumption) ?_
      rotate_left
      · (intro w hSw; (try dsimp only at hSw); go_simp; try with_reducible rfl)
      try simp only [List.setIfInBounds_toArray, List.set_cons_zero, List.set_cons_succ]
      refine take_by 6 28 (v := ?_) rfl rfl (by kernel_rfl) (by kernel_rfl) (by kernel_rfl) (fun _ _ _ h => h) (Or.inl ⟨by rfl, ?_⟩) (by assumption) ?_
      rotate_left
      · (intro w hSw; (try dsimp only at hSw); go_simp; try with_reducible rfl)
      try simp only [List.setIfInBounds_toArray, List.set_cons_zero, List.set_cons_succ]
      refine take_by 7 29 (v := ?_) rfl rfl (by kernel_rfl) (by kernel_rfl) (by kernel_rfl) (fun _ _ _ h => h) (Or.inl ⟨by rfl, ?_⟩) (by assumption) ?_
      rotate_left
      · (intro w hSw; (try dsimp only at hSw); go_simp; try with_reducible rfl)
      try simp only [List.setIfInBounds_toArray, List.set_cons_zero, List.set_cons_succ]
      refine take_by 9 31 (v := ?_) rfl rfl (by kernel_rfl) (by kernel_rfl) (by kernel_rfl) (fun _ _ _ h => h) (Or.inl ⟨by rfl, ?_⟩) (by assumption) ?_
      rotate_left
      · (intro w hSw; (try dsimp only at hSw); go_simp; try with_reducible rfl)
      try simp only [List.setIfInBounds_toArray, List.set_cons_zero, List.set_cons_succ]
      refine take_by 10 32 (v := ?_) rfl rfl (by kernel_rfl) (by kernel_rfl) (by kernel_rfl) (fun _ _ _ h => h) (Or.inl ⟨by rfl, ?_⟩) (by assumption) ?_
      rotate_left
      · (intro w hSw; (try dsimp only at hSw); go_simp; try with_reducible rfl)
      try simp only [List.setIfInBounds_toArray, List.set_cons_zero, List.set_cons_succ]
      refine wpAnyH_ready (rs := [8]) (by kernel_rfl) (by simp) ?_
      refine AllReadyH.cons rfl (fun K hK => ?_) AllReadyH.nil
      go_simp
      (go_at_call 27; refine (HD.out _ K5.out).mono ?_; rintro e w6 ⟨rfl, rfl⟩; have K6 := hx K5.out)
      refine hK.out _ _ (HS6.out _ K6.out) (fun hHeld => ?_)
      clear hK K
      try simp only [Act.put, List.setIfInBounds_toArray, List.set_cons_zero, List.set_cons_succ]
      refine take_by 11 33 (v := ?_) rfl rfl (by kernel_rfl) (by kernel_rfl) (by kernel_rfl) (fun _ _ _ h => h) (Or.inl ⟨by rfl, ?_⟩) (by assumption) ?_
      rotate_left
      · (intro w hSw; (try dsimp only at hSw); go_simp; try with_reducible rfl)
      try simp only [List.setIfInBounds_toArray, List.set_cons_zero, List.set_cons_succ]
      refine take_by 12 34 (v := ?_) rfl rfl (by kernel_rfl) (by kernel_rfl) (by kernel_rfl) (fun _ _ _ h => h) (Or.inl ⟨by rfl, ?_⟩) (by assumption) ?_
      rotate_left
      · (intro w hSw; (try dsimp only at hSw); go_simp; try with_reducible rfl)
      try simp only [List.setIfInBounds_toArray, List.set_cons_zero, List.set_cons_succ]
      refine take_by 13 35 (v := ?_) rfl rfl (by kernel_rfl) (by kernel_rfl) (by kernel_rfl) (fun _ _ _ h => h) (Or.inl ⟨by rfl, ?_⟩) (by assumption) ?_
      rotate_left
      · (intro w hSw; (try dsimp only at hSw); go_simp; try with_reducible rfl)
      try simp only [List.setIfInBounds_toArray, List.set_cons_zero, List.set_cons_succ]
      refine take_by 14 36 (v := ?_) rfl rfl (by kernel_rfl) (by kernel_rfl) (by kernel_rfl) (fun _ _ _ h => h) (Or.inl ⟨by rfl, ?_⟩) (by assumption) ?_
      rotate_left
      · (intro w hSw; (try dsimp only at hSw); go_simp; try with_reducible rfl)
      try simp only [List.setIfInBounds_toArray, List.set_cons_zero, List.set_cons_succ]
      refine take_by 16 38 (v := ?_) rfl rfl (by kernel_rfl) (by kernel_rfl) (by kernel_rfl) (fun _ _ _ h => h) (Or.inl ⟨by rfl, ?_⟩) (by assumption) ?_
      rotate_left
      · (intro w hSw; (try dsimp only at hSw); go_simp; try with_reducible rfl)
      try simp only [List.setIfInBounds_toArray, List.set_cons_zero, List.set_cons_succ]
      refine take_by 17 39 (v := ?_) rfl rfl (by kernel_rfl) (by kernel_rfl) (by kernel_rfl) (fun _ _ _ h => h) (Or.inl ⟨by rfl, ?_⟩) (by assumption) ?_
      rotate_left
      · (intro w hSw; (try dsimp only at hSw); go_simp; try with_reducible rfl)
      try simp only [List.setIfInBounds_toArray, List.set_cons_zero, List.set_cons_succ]
      refine wpAnyH_ready (rs := [15]) (by kernel_rfl) (by simp) ?_
      refine AllReadyH.cons rfl (fun K hK => ?_) AllReadyH.nil
      go_simp
      (go_at_call 28; refine (HH.out _ K6.out).mono ?_; rintro e w7 ⟨rfl, rfl⟩; have K7 := hx K6.out)
      refine hK.out _ _ (HS6.out _ K7.out) (fun hHeld => ?_)
      clear hK K
      try simp only [Act.put, List.setIfInBounds_toArray, List.set_cons_zero, List.set_cons_succ]
      refine take_by 18 40 (v := ?_) rfl rfl (by kernel_rfl) (by kernel_rfl) (by kernel_rfl) (fun _ _ _ h => h) (Or.inl ⟨by rfl, ?_⟩) (by assumption) ?_
      rotate_left
      · (intro w hSw; (try dsimp only at hSw); go_simp; try with_reducible rfl)
      try simp only [List.setIfInBounds_toArray, List.set_cons_zero, List.set_cons_succ]
      refine take_by 19 41 (v := ?_) rfl rfl (by kernel_rfl) (by kernel_rfl) (by kernel_rfl) (fun _ _ _ h => h) (Or.inl ⟨by rfl, ?_⟩) (by assumption) ?_
      rotate_left
      · (intro w hSw; (try dsimp only at hSw); go_simp; try with_reducible rfl)
      try simp only [List.setIfInBounds_toArray, List.set_cons_zero, List.set_cons_succ]
      refine take_by 20 42 (v := ?_) rfl rfl (by kernel_rfl) (by kernel_rfl) (by kernel_rfl) (fun _ _ _ h => h) (Or.inl ⟨by rfl, ?_⟩) (by assumption) ?_
      rotate_left
      · (intro w hSw; (try dsimp only at hSw); go_simp; try with_reducible rfl)
      try simp only [List.setIfInBounds_toArray, List.set_cons_zero, List.set_cons_succ]
      refine take_by 21 43 (v := ?_) rfl rfl (by kernel_rfl) (by kernel_rfl) (by kernel_rfl) (fun _ _ _ h => h) (Or.inl ⟨by rfl, ?_⟩) (by assumption) ?_
      rotate_left
      · (intro w hSw; (try dsimp only at hSw); go_simp; try with_reducible rfl)
      try simp only [List.setIfInBounds_toArray, List.set_cons_zero, List.set_cons_succ]
      refine take_by 23 45 (v := ?_) rfl rfl (by kernel_rfl) (by kernel_rfl) (by kernel_rfl) (fun _ _ _ h => h) (Or.inl ⟨by rfl, ?_⟩) (by assumption) ?_
      rotate_left
      · (intro w hSw; (try dsimp only at hSw); go_simp; try with_reducible rfl)
      try simp only [List.setIfInBounds_toArray, List.set_cons_zero, List.set_cons_succ]
      refine take_by 24 46 (v := ?_) rfl rfl (by kernel_rfl) (by kernel_rfl) (by kernel_rfl) (fun _ _ _ h => h) (Or.inl ⟨by rfl, ?_⟩) (by assumption) ?_
      rotate_left
      · (intro w hSw; (try dsimp only at hSw); go_simp; try with_reducible rfl)
      try simp only [List.setIfInBounds_toArray, List.set_cons_zero, List.set_cons_succ]
      refine wpAnyH_ready (rs := [22]) (by kernel_rfl) (by simp) ?_
      refine AllReadyH.cons rfl (fun K hK => ?_) AllReadyH.nil
      go_simp
      (go_at_call 29; refine (HN.out _ K7.out).mono ?_; rintro e w8 ⟨rfl, rfl⟩; have K8 := hx K7.out)
      refine hK.out _ _ (HS6.out _ K8.out) (fun hHeld => ?_)
      clear hK K
      try simp only [Act.put, List.setIfInBounds_toArray, List.set_cons_zero, List.set_cons_succ]
      refine take_by 25 47 (v := ?_) rfl rfl (by kernel_rfl) (by kernel_rfl) (by kernel_rfl) (fun _ _ _ h => h) (Or.inl ⟨by rfl, ?_⟩) (by assumption) ?_
      rotate_left
      · (intro w hSw; (try dsimp only at hSw); go_simp; try with_reducible rfl)
      try simp only [List.setIfInBounds_toArray, List.set_cons_zero, List.set_cons_succ]
      refine take_by 26 48 (v := ?_) rfl rfl (by kernel_rfl) (by kernel_rfl) (by kernel_rfl) (fun _ _ _ h => h) (Or.inl ⟨by rfl, ?_⟩) (by assumption) ?_
      rotate_left
      · (intro w hSw; (try dsimp only at hSw); go_simp; try with_reducible rfl)
      try simp only [List.setIfInBounds_toArray, List.set_cons_zero, List.set_cons_succ]
      refine take_by 27 49 (v := ?_) rfl rfl (by kernel_rfl) (by kernel_rfl) (by kernel_rfl) (fun _ _ _ h => h) (Or.inl ⟨by rfl, ?_⟩) (by assumption) ?_
      rotate_left
      · (intro w hSw; (try dsimp only at hSw); go_simp; try with_reducible rfl)
      try simp only [List.setIfInBounds_toArray, List.set_cons_zero, List.set_cons_succ]
      refine take_by 28 50 (v := ?_) rfl rfl (by kernel_rfl) (by kernel_rfl) (by kernel_rfl) (fun _ _ _ h => h) (Or.inl ⟨by rfl, ?_⟩) (by assumption) ?_
      rotate_left
      · (intro w hSw; (try dsimp only at hSw); go_simp; try with_reducible rfl)
      try simp only [List.setIfInBounds_toArray, List.set_cons_zero, List.set_cons_succ]
      refine take_by 29 51 (v := ?_) rfl rfl (by kernel_rfl) (by kernel_rfl) (by kernel_rfl) (fun _ _ _ h => h) (Or.inl ⟨by rfl, ?_⟩) (by assumption) ?_
      rotate_left
      · (intro w hSw; (try dsimp only at hSw); go_simp; try with_reducible rfl)
      try simp only [List.setIfInBounds_toArray, List.set_cons_zero, List.set_cons_succ]
      refine take_by 30 52 (v := .agg (bkc m.rt m.burst m.held m.spent m.full).toArray) rfl rfl (by kernel_rfl) (by kernel_rfl) (by kernel_rfl) (fun _ _ _ h => h) (yieldsIf_load_mid (by rfl) 37 (.tmp 51) rfl w.heap.size (156) rfl (bkc m.rt m.burst m.held m.spent m.full) _ (fun _ hS => hS.2.2.2.2) Tryz.underlying37 rfl (by kernel_rfl)) (by assumption) ?_
      try simp only [List.setIfInBounds_toArray, List.set_cons_zero, List.set_cons_succ]
      refine wpAnyH_ready (rs := [31]) (by kernel_rfl) (by simp) ?_
      refine AllReadyH.cons rfl (fun K hK => ?_) AllReadyH.nil
      go_simp
      (go_at_call 30; refine (HB.out _ K8.out).mono ?_; rintro e w9 ⟨rfl, hk9⟩; have K9 := hx (K8.out.trans0 hk9); clear hk9)
      refine hK.out _ _ (HS6.out _ K9.out) (fun hHeld => ?_)
      clear hK K
      try simp only [Act.put, List.setIfInBounds_toArray, List.set_cons_zero, List.set_cons_succ]
      refine take_by 32 54 (v := ?_) rfl rfl (by kernel_rfl) (by kernel_rfl) (by kernel_rfl) (fun _ _ _ h => h) (Or.inl ⟨by rfl, ?_⟩) (by assumption) ?_
      rotate_left
      · (intro w hSw; (try dsimp only at hSw); go_simp; try with_reducible rfl)
      try simp only [List.setIfInBounds_toArray, List.set_cons_zero, List.set_cons_succ]
      refine take_by 33 4 (v := ?_) rfl rfl (by kernel_rfl) (by kernel_rfl) (by kernel_rfl) (fun _ _ _ h => h) (Or.inl ⟨by rfl, ?_⟩) (by assumption) ?_
      rotate_left
      · (intro w hSw; (try dsimp only at hSw); go_simp; try with_reducible rfl)
      try simp only [List.setIfInBounds_toArray, List.set_cons_zero, List.set_cons_succ]
      refine wpAnyH_done (by kernel_rfl) ?_ _
      go_wp2_with fail
      go_ret
      exact ⟨rfl, (K1.out.trans0 HK.out).trans0 K9.out⟩
end Go.Proofs.YtgdofgckjkmhjaaGreat.Mp
