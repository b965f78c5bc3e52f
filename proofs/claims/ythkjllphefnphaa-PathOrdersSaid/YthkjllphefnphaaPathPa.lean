/- The two ways of Played, the program's and the reference's, in their blocks. -/
import Derived.Test.YthkjllphefnphaaPathSb
import Derived.Test.YthkjllphefnphaaPathA
import Derived.Test.YthkjllphefnphaaPathTp
import Derived.Test.YthkjllphefnphaaPathRT
import Derived.Test.YthkjllphefnphaaPathRH
import Derived.Test.YthkjllphefnphaaPathY
import Derived.Test.YthkjllphefnphaaStep
namespace Go.Proofs.Ythkjllphefnphaa
open Go Go.RowKit
theorem pac_one (p : Pa) : ∀ v ∈ pac p, v.oneCell' = true := by
  intro v hv
  simp only [pac, stc, snc, List.mem_append, List.mem_cons, List.not_mem_nil, or_false] at hv
  rcases hv with ((h | h | h | h | h) | (h | h | h | h | h | h)) | h | h | h | h <;> (rw [h]; rfl)
theorem infoPan (p : Pa) : (Try.prog.info? 31).map (·.size) = some (pac p).length := by rw [pac_len]; kernel_rfl
theorem zeroPa (w : World) : (zeroValue 31).run Try.prog w = .ok (.agg (pac pa0).toArray) w := by kernel_rfl
theorem zeroPa' : ∃ Z : Array Value, Z.toList = pac pa0 ∧ ∀ w, (zeroValue 31).run Try.prog w = .ok (.agg Z) w := ⟨_, rfl, zeroPa⟩
theorem acc_len (x : Ac) : (acc x).length = 3 := rfl
theorem acc_one (x : Ac) : ∀ v ∈ acc x, v.oneCell' = true := by
  intro v hv
  simp only [acc, List.mem_cons, List.not_mem_nil, or_false] at hv
  rcases hv with h | h | h <;> (rw [h]; rfl)
theorem infoAc (x : Ac) : (Try.prog.info? 54).map (·.size) = some (acc x).length := by rw [acc_len]; kernel_rfl
theorem zeroAc (w : World) : (zeroValue 54).run Try.prog w = .ok (.agg (acc ⟨0, 0, 0⟩).toArray) w := by kernel_rfl
theorem zeroAc' : ∃ Z : Array Value, Z.toList = acc ⟨0, 0, 0⟩ ∧ ∀ w, (zeroValue 54).run Try.prog w = .ok (.agg Z) w := ⟨_, rfl, zeroAc⟩
theorem set_pac (p q : Pa) : setAll (pac p) 0 (pac q) = pac q := setAll_all _ _ rfl
theorem set_pac_s (p : Pa) (s : St) : setAll (pac p) 0 (stc s) = pac { p with s := s } := by rw [pac_set_s (Part.all (pac p)), set_pac]
theorem pac_any_part (p : Pa) : Part (pac p) 0 (stc p.s) := pac_s (Part.all _)
theorem ptick (b : Nat) (p : Pa) (w : World) (k t : Int) (hb : Blk w b (pac p) 31) (h : PaOk p k t) (ht : t ≤ 1000000) :
    Calls Try.prog 8 #[.pointer (some ⟨b, 0, none⟩)] w fun e w' => e = .returned (.bool (tickP p).2) ∧ Blk w' b (pac (tickP p).1) 31 ∧ Kept [b] w w' := by
  refine (tick_any b 0 (pac p) _ p w hb (Part.all _) h.quiet.1 (by have := h.quiet.2; omega) h.gap.1 h.gap.2 h.probe.1 h.probe.2).mono ?_
  rintro e w' ⟨rfl, h2, h3⟩
  rw [set_pac] at h2
  exact ⟨rfl, h2, h3⟩
theorem pheard (b n : Nat) (p : Pa) (w : World) (k t : Int) (hb : Blk w b (pac p) 31) (h : PaOk p k t) (hk : k ≤ 100) (hn : n < 4294967296) :
    Calls Try.prog 9 #[.pointer (some ⟨b, 0, none⟩), .int .u32 n] w fun e w' => e = .returned (.int .i64 (heardP p n).2) ∧ Blk w' b (pac (heardP p n).1) 31 ∧ Kept [b] w w' := by
  refine (heard_any b 0 n (pac p) _ p w hb (Part.all _) (h.s.mono (by omega)) (h.seen.mono hk) hn).mono ?_
  rintro e w' ⟨rfl, h2, h3⟩
  rw [set_pac] at h2
  exact ⟨rfl, h2, h3⟩
theorem pnumber (b : Nat) (p : Pa) (w : World) (hb : Blk w b (pac p) 31) (hn : p.next < 4294967296) :
    Calls Try.prog 17 #[.pointer (some ⟨b, 0, none⟩)] w fun e w' => e = .returned (.int .u32 p.next) ∧ Blk w' b (pac { p with next := nextU p.next }) 31 ∧ Kept [b] w w' := by
  refine (number_any b 0 (pac p) _ p w hb (Part.all _) hn).mono ?_
  rintro e w' ⟨rfl, h2, h3⟩
  rw [set_pac] at h2
  exact ⟨rfl, h2, h3⟩
theorem ptrip (b : Nat) (x : Int) (p : Pa) (w : World) (k t : Int) (hb : Blk w b (pac p) 31) (h : PaOk p k t) (hk : k ≤ 100) :
    Calls Try.prog 15 #[.pointer (some ⟨b, 0, none⟩), .int .i64 x] w fun e w' => e = .returned (.tuple #[]) ∧ Blk w' b (pac { p with s := tripS p.s x }) 31 ∧ Kept [b] w w' := by
  refine (trip_any b 0 (pac p) _ p.s x w hb (pac_any_part p) (h.s.mono (by omega))).mono ?_
  rintro e w' ⟨rfl, h2, h3⟩
  rw [set_pac_s] at h2
  exact ⟨rfl, h2, h3⟩
theorem rtick (p : Pa) (w : World) (k t : Int) (h : PaOk p k t) (ht : t ≤ 1000000) :
    Calls Try.prog 13 #[.agg (rpc p).toArray] w fun e w' => e = .returned (.tuple #[.agg (rpc (tickP p).1).toArray, .bool (tickP p).2]) ∧ Kept [] w w' :=
  rtick_any p w h.quiet.1 (by have := h.quiet.2; omega) h.gap.1 h.gap.2 h.probe.1 h.probe.2
theorem rheard (n : Nat) (p : Pa) (w : World) (k t : Int) (h : PaOk p k t) (hk : k ≤ 100) (hn : n < 4294967296) :
    Calls Try.prog 14 #[.agg (rpc p).toArray, .int .u32 n] w fun e w' => e = .returned (.tuple #[.agg (rpc (heardP p n).1).toArray, .int .i64 (heardP p n).2]) ∧ Kept [] w w' :=
  rheard_any n p w (h.s.mono (by omega)) (h.seen.mono hk) hn
theorem rtrip (x : Int) (p : Pa) (w : World) (k t : Int) (h : PaOk p k t) (hk : k ≤ 100) :
    Calls Try.prog 16 #[.agg (stc p.s).toArray, .int .i64 x] w fun e w' => e = .returned (.agg (stc (tripS p.s x)).toArray) ∧ Kept [] w w' :=
  rtrip_any p.s x w (h.s.mono (by omega))
/-- The four blocks of Played, from block n on: the results', and the ways p and q. -/
structure PlW (w wr : World) (p q : Pa) : Prop where
  r0 : Blk wr w.heap.size (pac pa0) 31
  r1 : Blk wr (w.heap.size + 1) (rpc pa0) 37
  b : Blk wr (w.heap.size + 1 + 1) (pac p) 31
  e : Blk wr (w.heap.size + 1 + 1 + 1) (rpc q) 37
  k : Kept [] w wr
theorem PlW.kept {w wr w2 : World} {p q : Pa} (h : PlW w wr p q) (hk : Kept [] wr w2) : PlW w w2 p q :=
  ⟨hk.blk h.r0 (by simp), hk.blk h.r1 (by simp), hk.blk h.b (by simp), hk.blk h.e (by simp), h.k.trans0 hk⟩
theorem PlW.new {w wr w2 : World} {p q : Pa} {g : Nat} (h : PlW w wr p q) (hk : Kept [g] wr w2) (hg : wr.heap.size ≤ g) : PlW w w2 p q :=
  h.kept (hk.mono (fun x hx => by simp at hx; subst hx; exact .inr hg))
theorem PlW.setp {w wr w2 : World} {p q p' : Pa} (h : PlW w wr p q) (hb : Blk w2 (w.heap.size + 1 + 1) (pac p') 31) (hk : Kept [w.heap.size + 1 + 1] wr w2) : PlW w w2 p' q :=
  ⟨hk.blk h.r0 (by simp <;> omega), hk.blk h.r1 (by simp <;> omega), hb, hk.blk h.e (by simp <;> omega), Kept.behind h.k hk (by omega)⟩
theorem PlW.setq {w wr w2 : World} {p q q' : Pa} (h : PlW w wr p q) (hb : Blk w2 (w.heap.size + 1 + 1 + 1) (rpc q') 37) (hk : Kept [w.heap.size + 1 + 1 + 1] wr w2) : PlW w w2 p q' :=
  ⟨hk.blk h.r0 (by simp <;> omega), hk.blk h.r1 (by simp <;> omega), hk.blk h.b (by simp <;> omega), hb, Kept.behind h.k hk (by omega)⟩
theorem PlW.lt {w wr : World} {p q : Pa} (h : PlW w wr p q) : w.heap.size + 1 + 1 + 1 < wr.heap.size := h.e.lt
theorem Acts.wr {w wr : World} {p q : Pa} {a : Option Addr} {n c : Nat} (h : Acts w a n c) (k : PlW w wr p q) : Acts wr a n c := h.kept k.k
theorem Kept.fresh {w w2 : World} {g : Nat} (hk : Kept [g] w w2) (hg : w.heap.size ≤ g) : Kept [] w w2 := hk.mono (fun x hx => by simp at hx; subst hx; exact .inr hg)
theorem PlW.start (w : World) (Z Y : Array Value) (hZ : Z.toList = pac pa0) (hY : Y.toList = rpc pa0) :
    PlW w ((((w.alloc (.cells Z 31)).alloc (.cells Y 37)).alloc (.cells Z 31)).alloc (.cells Y 37)) pa0 pa0 := by
  have h0 := Blk.new' w Z 31
  have h1 := Blk.new' (w.alloc (.cells Z 31)) Y 37
  have h2 := Blk.new' ((w.alloc (.cells Z 31)).alloc (.cells Y 37)) Z 31
  have h3 := Blk.new' (((w.alloc (.cells Z 31)).alloc (.cells Y 37)).alloc (.cells Z 31)) Y 37
  rw [hZ] at h0 h2
  rw [hY] at h1 h3
  have s1 : ∀ (w : World) o, (w.alloc o).heap.size = w.heap.size + 1 := by intro w o; simp
  rw [s1] at h1
  rw [s1, s1] at h2
  rw [s1, s1, s1] at h3
  exact ⟨((h0.alloc _).alloc _).alloc _, (h1.alloc _).alloc _, h2.alloc _, h3, ((((Kept.refl [] w).alloc _).alloc _).alloc _).alloc _⟩
theorem ret_blk3 {P : Program} {w : World} {fn : Func} {p p2 q : Tmp} {ty ty2 : TypeId} (h : fn.results = #[.cell p ty, .cell p2 ty2, .tmp q]) (tmps : Array Value) (g g2 : Nat) (T T2 : TypeId) (xs ys : List Value) (v : Value) (d d2 : TypeDesc)
    (hp : tmps.getD p undef = .pointer (some ⟨g, 0, none⟩)) (hp2 : tmps.getD p2 undef = .pointer (some ⟨g2, 0, none⟩)) (hq : tmps.getD q undef = v) (hb : Blk w g xs T) (hb2 : Blk w g2 ys T2)
    (hu : P.underlying ty = some d) (hd : (match d with | .struct _ | .array _ _ => true | _ => false) = true) (hi : (P.info? ty).map (·.size) = some xs.length)
    (hu2 : P.underlying ty2 = some d2) (hd2 : (match d2 with | .struct _ | .array _ _ => true | _ => false) = true) (hi2 : (P.info? ty2).map (·.size) = some ys.length) :
    (results fn tmps).run P w = .ok (.tuple #[.agg xs.toArray, .agg ys.toArray, v]) w := by
  have hp' : tmps[p]?.getD undef = .pointer (some ⟨g, 0, none⟩) := by simpa using hp
  have hp2' : tmps[p2]?.getD undef = .pointer (some ⟨g2, 0, none⟩) := by simpa using hp2
  have hq' : tmps[q]?.getD undef = v := by simpa using hq
  simp [results, h, hp', hp2', hq', asAddr, run_loadVar_row w g T ty xs.toArray (0, 0) d hb hu hd (by simpa using hi), run_loadVar_row w g2 T2 ty2 ys.toArray (0, 0) d2 hb2 hu2 hd2 (by simpa using hi2)]
/-- .. with what the results' blocks hold. -/
structure PlY (w wr : World) (x y p : Pa) : Prop where
  r0 : Blk wr w.heap.size (pac x) 31
  r1 : Blk wr (w.heap.size + 1) (rpc y) 37
  b : Blk wr (w.heap.size + 1 + 1) (pac p) 31
  e : Blk wr (w.heap.size + 1 + 1 + 1) (rpc p) 37
  k : Kept [] w wr
theorem PlW.y {w wr : World} {p : Pa} (h : PlW w wr p p) : PlY w wr.drew pa0 pa0 p := ⟨h.r0, h.r1, h.b, h.e, h.k.drew⟩
theorem PlY.set0 {w wr w2 : World} {x y p x' : Pa} (h : PlY w wr x y p) (hb : Blk w2 w.heap.size (setAll (pac x) 0 (pac x')) 31) (hk : Kept [w.heap.size] wr w2) : PlY w w2 x' y p :=
  ⟨by rw [set_pac] at hb; exact hb, hk.blk h.r1 (by simp), hk.blk h.b (by simp <;> omega), hk.blk h.e (by simp <;> omega), Kept.behind h.k hk (by omega)⟩
theorem PlY.set1 {w wr w2 : World} {x y p y' : Pa} (h : PlY w wr x y p) (hb : Blk w2 (w.heap.size + 1) (setAll (rpc y) 0 (rpc y')) 37) (hk : Kept [w.heap.size + 1] wr w2) : PlY w w2 x y' p :=
  ⟨hk.blk h.r0 (by simp), by rw [setAll_all _ _ (rpc_len2 _ _)] at hb; exact hb, hk.blk h.b (by simp <;> omega), hk.blk h.e (by simp <;> omega), Kept.behind h.k hk (by omega)⟩
end Go.Proofs.Ythkjllphefnphaa
