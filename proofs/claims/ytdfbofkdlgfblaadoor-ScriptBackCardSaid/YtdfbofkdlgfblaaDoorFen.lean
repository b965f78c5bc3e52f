/- Inside a fence: a struct's load and store, an append, as their plain twins. -/
import Derived.Test.YtdfbofkdlgfblaaDoorApg
import Derived.Test.YtdfbofkdlgfblaaDoorSeqE
import Derived.Deep.MidRow
import Derived.Laws.Rows
namespace Go.Proofs.YtdfbofkdlgfblaaDoor
open Go Go.RowKit Go.Shelf
section
variable {F : Fence} {nF : Nat} {P : Program} {ops : Array Oper} {rest : List Oper} {o : Oper} {a : Act} {w : World} {Q : Exit → Act → World → Prop}
theorem load_blkF (hgd : o.guard = none) (ty : TypeId) (x : Operand) (ho : o.op = .load ty x)
    (g : Nat) (hx : a.eval x = .pointer (some ⟨g, 0, none⟩)) (T : TypeId) (xs : List Value) (d : TypeDesc) (hb : Blk w g xs T)
    (hu : P.underlying ty = some d) (hd : (match d with | .struct _ | .array _ _ => true | _ => false) = true) (hi : (P.info? ty).map (·.size) = some xs.length)
    (h : wpListIn F nF P ops Q rest (a.put o.dst (.agg xs.toArray)) w) : wpListIn F nF P ops Q (o :: rest) a w := by
  refine wpListIn_plain hgd fun K hK => ?_
  unfold Oper.wpIn
  refine ⟨by simp [Oper.about, ho], ?_⟩
  rw [Oper.semAt_plain F _ _ (by rw [ho]; intro c hc'; cases hc')]
  unfold execOp
  simp only [ho, hx, Instr.loadAt, Instr.sureAddr, Sem.run_bind, Sem.run_pure, Result.andThen_ok, run_loadVar_row w g T ty xs.toArray (0, 0) d hb hu hd (by simpa using hi)]
  exact hK _ _ h
theorem store_blkF (hgd : o.guard = none) (ty : TypeId) (x y : Operand) (ho : o.op = .store ty x y)
    (g : Nat) (hx : a.eval x = .pointer (some ⟨g, 0, none⟩)) (T : TypeId) (xs ys : List Value) (hy : a.eval y = .agg ys.toArray) (hb : Blk w g xs T) (hl : ys.length = xs.length)
    (hi : (P.info? ty).map (·.size) = some ys.length) (h1 : ∀ v ∈ ys, v.oneCell' = true)
    (h : ∀ w', Blk w' g ys T → Kept [g] w w' → wpListIn F nF P ops Q rest (a.put o.dst undef) w') : wpListIn F nF P ops Q (o :: rest) a w := by
  refine wpListIn_plain hgd fun K hK => ?_
  unfold Oper.wpIn
  refine ⟨by simp [Oper.about, ho], ?_⟩
  rw [Oper.semAt_plain F _ _ (by rw [ho]; intro c hc'; cases hc')]
  unfold execOp
  simp only [ho, hx, hy, Instr.storeAt, Instr.sureAddr, Sem.run_bind, Sem.run_pure, Result.andThen_ok, run_storeVar_mid w g 0 ty ys.toArray (hb.there (by simp [hl])) (by simpa using hi) (all_oneCell_toArray h1)]
  refine hK _ _ (h _ ?_ ((Kept.refl _ _).setCells (by simp) 0 _))
  have e := hb.setCells 0 ys
  rw [setAll_all _ _ hl] at e
  simpa using e
theorem wpListIn_app (hgd : o.guard = none) (s x : Operand) (t : TypeId)
    (ho : o.op = .call { callee := .builtin .append, args := #[s, x], argTypes := #[t, t] })
    (base : Nat) (e : TypeId) (z : Value) (size bytes : Nat) (hinfo : (P.info? e).map (fun i => (i.zero, i.size, i.bytes)) = some (some z, size, bytes)) (ht : P.underlying t = some (.slice e))
    (hzs : z.cells.size = size) (hsz : 0 < size)
    (v : Value) (n : Nat) (xs : List Value) (hs : a.eval s = v) (hown : w.ownsRow base e size v n xs)
    (ao : Option Addr) (m c : Nat) (news : List Value) (hx : a.eval x = .slice ao m c) (hl : news.length = m * size) (hnil : ao = none → c = 0) (hmc : m ≤ c) (hnews : ∀ ad, ao = some ad → ∀ j u, news[j]? = some u → w.cell? (ad.add j) = some u) (h1 : ∀ u ∈ news, u.oneCell' = true)
    (h63 : n + m ≤ maxLen) (hbytes : (n + m) * bytes ≤ 140737488355328) (hbase : base ≤ w.heap.size)
    (h : ∀ v' w', w'.ownsRow base e size v' (n + m) (xs ++ news) → w.grownBy w' v.ownBlock → wpListIn F nF P ops Q rest (a.put o.dst v') w') : wpListIn F nF P ops Q (o :: rest) a w := by
  obtain ⟨i, hi, hz0, hz1, hz2⟩ := info_parts hinfo
  refine wpListIn_plain hgd fun K hK => ?_
  obtain ⟨v', w', hr, r1, r2⟩ := run_app (P := P) (w := w) base t o.type e i z size bytes ht hi hz0 hz1 hz2 hzs hsz v n xs hown ao m c news hl hnil hmc hnews h1 h63 hbytes hbase
  unfold Oper.wpIn
  refine ⟨by simp [Oper.about, ho, resolve, Target.leads, Sem.run_pure], ?_⟩
  rw [Oper.semAt_plain F _ _ (by rw [ho]; intro c hc'; cases hc')]
  simp [execOp, ho, resolve, invoke, builtin, hs, hx, hr, Result.andThen]
  exact hK _ _ (h v' w' r1 r2)
end
end Go.Proofs.YtdfbofkdlgfblaaDoor
