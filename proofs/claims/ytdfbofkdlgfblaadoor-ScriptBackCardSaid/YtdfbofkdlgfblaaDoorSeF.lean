/- The program's Parse. -/
import Derived.Test.YtdfbofkdlgfblaaDoorSeE
import Derived.RangeFuncLeaves
namespace Go.Proofs.YtdfbofkdlgfblaaDoor
open Go Go.RowKit Go.Shelf
attribute [local go_sem] Oper.semAt_some
/-- What Parse answers. -/
def PaQ (o : Except (Int × Int) PSt) (w0 : World) (e : Ending) (w' : World) : Prop := Kept [] w0 w' ∧ match o with
  | .error (n, c) => e = .returned (.tuple #[.agg (scV (.slice none 0 0)).toArray, .int .i64 n, .int .i64 c])
  | .ok s => ∃ a c, e = .returned (.tuple #[.agg (cfOf s.1 ++ [Value.slice a s.2.length c]).toArray, .int .i64 0, .int .i64 0]) ∧ AcR w' a s.2
theorem load_cell1 {P : Program} {w : World} {ty : TypeId} (g : Nat) (v : Value) (hc : w.cell? ⟨g, 0, none⟩ = some v) {d : TypeDesc} (hu : P.underlying ty = some d) (hd : (match d with | .struct _ | .array _ _ => true | _ => false) = false) :
    (loadVar ty ⟨g, 0, none⟩).run P w = .ok v w := by
  have hag : (isAgg ty).run P w = .ok false w := by
    unfold isAgg
    rw [Sem.run_bind, run_underlying hu w]
    cases d <;> simp_all
  simp [loadVar, Sem.run_bind, hag, run_load, hc]
theorem ret_cells3 {P : Program} {w : World} {fn : Func} {p q r : Tmp} {ty t1 t2 : TypeId} (h : fn.results = #[.cell p ty, .cell q t1, .cell r t2]) (tmps : Array Value) (g g1 g2 : Nat) (T : TypeId) (xs : List Value) (v1 v2 : Value) (d d1 d2 : TypeDesc)
    (hp : tmps.getD p undef = .pointer (some ⟨g, 0, none⟩)) (hq : tmps.getD q undef = .pointer (some ⟨g1, 0, none⟩)) (hr : tmps.getD r undef = .pointer (some ⟨g2, 0, none⟩)) (hb : Blk w g xs T)
    (hu : P.underlying ty = some d) (hd : (match d with | .struct _ | .array _ _ => true | _ => false) = true) (hi : (P.info? ty).map (·.size) = some xs.length)
    (h1 : w.cell? ⟨g1, 0, none⟩ = some v1) (hu1 : P.underlying t1 = some d1) (hd1 : (match d1 with | .struct _ | .array _ _ => true | _ => false) = false)
    (h2 : w.cell? ⟨g2, 0, none⟩ = some v2) (hu2 : P.underlying t2 = some d2) (hd2 : (match d2 with | .struct _ | .array _ _ => true | _ => false) = false) :
    (results fn tmps).run P w = .ok (.tuple #[.agg xs.toArray, v1, v2]) w := by
  have hp' : tmps[p]?.getD undef = .pointer (some ⟨g, 0, none⟩) := by simpa using hp
  have hq' : tmps[q]?.getD undef = .pointer (some ⟨g1, 0, none⟩) := by simpa using hq
  have hr' : tmps[r]?.getD undef = .pointer (some ⟨g2, 0, none⟩) := by simpa using hr
  have e1 := run_loadVar_row w g T ty xs.toArray (0, 0) d hb hu hd (by simpa using hi)
  have e2 := load_cell1 (P := P) g1 v1 h1 hu1 hd1
  have e3 := load_cell1 (P := P) g2 v2 h2 hu2 hd2
  simp [results, h, hp', hq', hr', asAddr, e1, e2, e3]
theorem alloc3 (w : World) (xs ys zs : List Value) (T S U : TypeId) : Blk (((w.alloc (.cells xs.toArray T)).alloc (.cells ys.toArray S)).alloc (.cells zs.toArray U)) w.heap.size xs T ∧ Blk (((w.alloc (.cells xs.toArray T)).alloc (.cells ys.toArray S)).alloc (.cells zs.toArray U)) (w.heap.size + 1) ys S ∧ Blk (((w.alloc (.cells xs.toArray T)).alloc (.cells ys.toArray S)).alloc (.cells zs.toArray U)) (w.heap.size + 2) zs U :=
  ⟨((Blk.new w xs T).alloc _).alloc _, (Blk.at _ _ (by simp) ys S).alloc _, Blk.at _ _ (by simp) zs U⟩
set_option maxRecDepth 100000 in
set_option maxHeartbeats 12800000 in
theorem pparse_long (text : List UInt8) (w0 : World) (hl : 65536 < text.length) :
    Calls Tryd.prog 20 #[txt text] w0 fun e w' => PaQ (parseP text) w0 e w' := by
  unfold parseP
  rw [if_pos hl]
  have hil : (65536 : Int) < (text.length : Int) := by omega
  clear hl
  go_enter Tryd.func20, Tryd.ntmps20
  go_upto_region 2 with fail
  have HB := hx (alloc3 w0 (scV (.slice none 0 0)) [.int .i64 0] [.int .i64 0] 46 3 29)
  have HK := hx ((((Kept.refl [] w0).alloc (.cells (scV (.slice none 0 0)).toArray 46)).alloc (.cells #[.int .i64 0] 3)).alloc (.cells #[.int .i64 0] 29))
  simp only [scV, cfL, List.cons_append, List.nil_append] at HB HK
  generalize World.alloc (World.alloc (World.alloc w0 _) _) _ = w1 at *
  simp only [Nat.add_assoc, Nat.reduceAdd]
  go_wp2_with (refine store_blk rfl 46 (.tmp 2) (.tmp 17) rfl w0.heap.size rfl 46 _ (scV (.slice none 0 0)) rfl HB.out.1 rfl (by kernel_rfl) (by decide) ?_; intro w4 hb4 hk4; have HB4 := hx hb4; have HK4 := hx hk4; have B3 := hx (hk4.blk HB.out.2.1 (by simp)); have B4 := hx (hk4.blk HB.out.2.2 (by simp)); clear hb4 hk4; have c3 := B3.out.cell (i := 0) rfl; have c4 := B4.out.cell (i := 0) rfl; have f3 := B3.out.free 0; have f4 := B4.out.free 0)
  have HK5 := hx (((HK.out.trans HK4.out (ds := []) (fun _ h => h) (fun x h => by simp at h; subst h; exact .inr (Nat.le_refl _))).setCell (p := ⟨w0.heap.size + 1, 0, none⟩) (.inr (by simp)) (.int .i64 0)).setCell (p := ⟨w0.heap.size + 2, 0, none⟩) (.inr (by simp)) (.int .i64 2))
  refine bodyPost_ret (ret_cells3 rfl _ w0.heap.size (w0.heap.size + 1) (w0.heap.size + 2) _ _ _ _ _ _ _ rfl rfl rfl ((HB4.out.set_ne (by simp) _).set_ne (by simp) _) Tryd.underlying46 rfl (by kernel_rfl) (((B3.out.set 0 (.int .i64 0)).set_ne (by simp) _).cell (i := 0) rfl) Tryd.underlying3 rfl (((B4.out.set_ne (by simp) _).set 0 (.int .i64 2)).cell (i := 0) rfl) Tryd.underlying29 rfl) rfl ⟨HK5.out, rfl⟩
end Go.Proofs.YtdfbofkdlgfblaaDoor
