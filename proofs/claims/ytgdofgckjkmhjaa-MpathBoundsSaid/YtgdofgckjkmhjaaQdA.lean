/- The queue's Len and Push. Printed by k/gen_qda.py. -/
import Derived.Test.YtgdofgckjkmhjaaQdK
import Derived.Test.YtgdofgckjkmhjaaApg
import Derived.Maps.AppendAt
import Derived.Great.BuildSlice
namespace Go.Proofs.Ytgdofgckjkmhjaa.Qd
open Go Go.RowKit
section
variable {P : Program} {w : World}
theorem step_app_at {ops : Array Oper} {o : Oper} {a : Act} {K : Act → World → Prop} {Q : Exit → Act → World → Prop} {E : Prop} (hgd : o.guard = none) (s x : Operand) (t : TypeId)
    (ho : o.op = .call { callee := .builtin .append, args := #[s, x], argTypes := #[t, t] })
    (base : Nat) (e : TypeId) (z : Value) (size bytes : Nat) (hinfo : (P.info? e).map (fun i => (i.zero, i.size, i.bytes)) = some (some z, size, bytes)) (ht : P.underlying t = some (.slice e))
    (hzs : z.cells.size = size) (hsz : 0 < size)
    (v : Value) (n : Nat) (xs : List Value) (hs : a.eval s = v) (hown : w.ownsRow base e size v n xs)
    (ad : Addr) (m c : Nat) (news : List Value) (hx : a.eval x = .slice (some ad) m c) (hl : news.length = m * size) (hnews : ∀ j u, news[j]? = some u → w.cell? (ad.add j) = some u) (h1 : ∀ u ∈ news, u.oneCell' = true)
    (h63 : n + m ≤ maxLen) (hbytes : (n + m) * bytes ≤ 140737488355328) (hbase : base ≤ w.heap.size)
    (h : ∀ v' w', w'.ownsRow base e size v' (n + m) (xs ++ news) → w.grownBy w' v.ownBlock → (v'.ownBlock = v.ownBlock ∨ v'.ownBlock = some w.heap.size) → K (a.put o.dst v') w') : if Region.wanted o (yielded ops a.tmps) = true then Oper.wp P o a w K Q else E := by
  have hw : Region.wanted o (yielded ops a.tmps) = true := by simp [Region.wanted, hgd]
  rw [if_pos hw]
  obtain ⟨i, hi, hz0, hz1, hz2⟩ := info_parts hinfo
  obtain ⟨v', w', hrun, r1, r2, _, r4⟩ := run_append_own_at (P := P) w base t o.type e i z size bytes ht hi hz0 hz1 hz2 hzs hsz v n xs hown ad m c news hl hnews h1 h63 hbytes hbase
  unfold Oper.wp execOp
  simp only [ho, resolve, invoke, builtin, Sem.run_bind, Sem.run_pure, Result.andThen_ok, List.map_toArray, List.map_cons, List.map_nil, hs, hx, hrun]
  exact h v' w' r1 r2 r4
end
theorem foldl_set : ∀ (vs : List Value) (cs : Array Value) (o : Nat), o + vs.length = cs.size →
    ((vs.zipIdx o).foldl (fun cs (x : Value × Nat) => cs.setIfInBounds x.2 x.1) cs).toList = cs.toList.take o ++ vs
  | [], cs, o, h => by
    simp only [List.zipIdx_nil, List.foldl_nil, List.append_nil]
    rw [List.take_of_length_le (by simp at h ⊢; omega)]
  | v :: vs, cs, o, h => by
    simp only [List.length_cons] at h
    rw [List.zipIdx_cons, List.foldl_cons, foldl_set vs _ (o + 1) (by simp; omega)]
    simp only [Array.toList_setIfInBounds]
    rw [List.take_add_one, List.take_set_of_le (by omega), List.getElem?_set_self (by simp; omega)]
    simp
theorem fill_one (n : Nat) (vs : List Value) (B : Array Value) (hv : vs.length = n) (hB : B.size = n) : Instr.fill (fun i => some (i * n, n)) B [(0, .agg vs.toArray)] = some vs.toArray := by
  unfold Instr.fill
  simp only [Nat.zero_mul, Value.cells, Nat.zero_add]
  rw [if_neg (by simp [hv, hB])]
  unfold Instr.fill
  congr 1
  apply Array.toList_inj.1
  have h := foldl_set vs B 0 (by omega)
  simp only [List.take_zero, List.nil_append] at h
  refine Eq.trans ?_ h
  simp
theorem own_slice {w : World} {base size : Nat} {e : TypeId} {v : Value} {n : Nat} {xs : List Value} (h : w.ownsRow base e size v n xs) : ∃ a c, v = .slice a n c := by
  rcases h.2 with ⟨rfl, rfl⟩ | ⟨g, cap, cur, rfl, _⟩
  · exact ⟨_, _, rfl⟩
  · exact ⟨_, _, rfl⟩
theorem own_kept3 {w w2 : World} {base size : Nat} {e : TypeId} {v : Value} {n : Nat} {xs : List Value} (h : w.ownsRow base e size v n xs) (hk : ∀ g cs, v.ownBlock = some g → w.heap[g]? = some (.cells cs e (0, 0)) → w2.heap[g]? = w.heap[g]?) : w2.ownsRow base e size v n xs := by
  refine ⟨h.1, ?_⟩
  rcases h.2 with hn | ⟨g, cap, cur, rfl, hb, hg, rest⟩
  · exact .inl hn
  · exact .inr ⟨g, cap, cur, rfl, hb, (hk g cur rfl hg).trans hg, rest⟩
theorem ret_blk2 {P : Program} {w : World} {fn : Func} {p q : Tmp} {ty : TypeId} (h : fn.results = #[.cell p ty, .tmp q]) (tmps : Array Value) (g : Nat) (T : TypeId) (xs : List Value) (v : Value) (d : TypeDesc)
    (hp : tmps.getD p undef = .pointer (some ⟨g, 0, none⟩)) (hq : tmps.getD q undef = v) (hb : Blk w g xs T)
    (hu : P.underlying ty = some d) (hd : (match d with | .struct _ | .array _ _ => true | _ => false) = true) (hi : (P.info? ty).map (·.size) = some xs.length) :
    (results fn tmps).run P w = .ok (.tuple #[.agg xs.toArray, v]) w := by
  have hp' : tmps[p]?.getD undef = .pointer (some ⟨g, 0, none⟩) := by simpa using hp
  have hq' : tmps[q]?.getD undef = v := by simpa using hq
  simp [results, h, hp', hq', asAddr, run_loadVar_row w g T ty xs.toArray (0, 0) d hb hu hd (by simpa using hi)]
theorem infoIt3 : (Try.prog.info? 81).map (fun i => (i.zero, i.size, i.bytes)) = some (some (.agg (itc it0).toArray), 13, 104) := by kernel_rfl
theorem builtIt (rank turn : Int) (x : Dv) : Try.prog.built 81 [(0, .int .i64 rank), (1, .int .i64 turn), (2, .agg (dvl x).toArray)] = some (itc ⟨rank, turn, x⟩).toArray := by kernel_rfl
theorem yieldsIf_build {P : Program} {ops : Array Oper} {S : World → Prop} {op : Oper} {a : Act} (hw : Region.wanted op (yielded ops a.tmps) = true) (t : TypeId) (parts : Array (Nat × Operand)) (ho : op.op = .build t parts) (cells : Array Value) (l : List (Nat × Value)) (hl : (parts.map fun (i, x) => (i, a.eval x)).toList = l)
    (hf : P.built t l = some cells) : YieldsIf P ops S op (.agg cells) a :=
  .inl ⟨hw, fun w _ => by
    subst hl
    unfold execOp
    simp only [ho, Sem.run_bind, run_build w t _ cells hf, Result.andThen_ok, Sem.run_pure]⟩
theorem step_bs {w : World} {ops : Array Oper} {o : Oper} {a : Act} {K : Act → World → Prop} {Q : Exit → Act → World → Prop} {E : Prop} (hgd : o.guard = none) (x : Operand) (ho : o.op = .buildSlice 77 1 #[(0, x)])
    (z : It) (hx : a.eval x = .agg (itc z).toArray) (hK : ∀ W', Blk W' w.heap.size (itc z) 81 → Kept [] w W' → K (a.put o.dst (.slice (some ⟨w.heap.size, 0, none⟩) 1 1)) W') : if Region.wanted o (yielded ops a.tmps) = true then o.wp Try.prog a w K Q else E := by
  obtain ⟨i, hi, hz0, hz1, hz2⟩ := info_parts infoIt3
  refine step_of hgd (wp_buildSlice _ 81 1 _ ho (itc z).toArray i _ Try.underlying77 hi hz0 (by omega) (by omega) ?_ (hK _ (Blk.new w _ _) ((Kept.refl _ _).alloc _)))
  have e1 : (#[((0 : Nat), x)].map fun (i, x) => (i, a.eval x)).toList = [(0, .agg (itc z).toArray)] := by simp [hx]
  rw [e1, hz1]
  exact fill_one 13 (itc z) _ rfl (by simp)
/-- A queue, whatever its slice is. -/
structure Qs (w : World) (q : Nat) (v : Value) (room turns : Int) (h : List It) : Prop where
  hq : Blk w q [.int .i64 room, .int .i64 turns, v] 79
  own : w.ownsRow 0 81 13 v h.length (cel h)
  ne : v.ownBlock ≠ some q
theorem Qs.toQm {w : World} {q : Nat} {v : Value} {room turns : Int} {h : List It} (s : Qs w q v room turns h) (h0 : 0 < h.length) :
    ∃ g cap rest, v = .slice (some ⟨g, 0, none⟩) h.length cap ∧ Qm w q g cap room turns h rest := by
  obtain ⟨hl, hr⟩ := s.own
  rcases hr with ⟨_, hn⟩ | ⟨g, cap, cur, rfl, _, hg, hn, hc, hs, ht⟩
  · omega
  · have hcur : cel h ++ cur.toList.drop (h.length * 13) = cur.toList := by rw [← ht, List.take_append_drop]
    refine ⟨g, cap, cur.toList.drop (h.length * 13), rfl, s.hq, ?_, hn, hc, ?_, ?_⟩
    · unfold Blk; rw [hcur]; exact hg
    · rw [hcur]; simpa using hs
    · rintro rfl; exact s.ne rfl
theorem Qm.toQs {w : World} {q g cap : Nat} {room turns : Int} {h : List It} {rest : List Value} (m : Qm w q g cap room turns h rest) : Qs w q (.slice (some ⟨g, 0, none⟩) h.length cap) room turns h := by
  have hl := cel_len h
  refine ⟨m.hq, ⟨by omega, .inr ⟨g, cap, (cel h ++ rest).toArray, rfl, Nat.zero_le _, m.hg, m.hl, m.hcap, by simpa using m.hrest, ?_⟩⟩, ?_⟩
  · simp only
    rw [List.take_left' (by omega)]
  · simp [Value.ownBlock]; exact Ne.symm m.hne
theorem Qs.new {w : World} {q : Nat} {room : Int} (hb : Blk w q [.int .i64 room, .int .i64 0, .slice none 0 0] 79) : Qs w q (.slice none 0 0) room 0 [] :=
  ⟨hb, World.ownsRow_nil _ _ _ 13, by simp [Value.ownBlock]⟩
set_option maxHeartbeats 800000 in
theorem len_any (q : Nat) (v : Value) (room turns : Int) (h : List It) (w : World) (s : Qs w q v room turns h) :
    Calls Try.prog 27 #[.pointer (some ⟨q, 0, none⟩)] w fun e w' => e = .returned (.int .i64 h.length) ∧ w = w' := by
  have c2 := s.hq.cell (i := 2) rfl
  rcases s.own with ⟨hl, ⟨rfl, hn⟩ | ⟨g, cap, cur, rfl, _, _, _, hc, _⟩⟩
  · have HN := hx hn
    clear hn hl s
    go_enter Try.func27, Try.ntmps27
    go_wp2
    go_ret
    exact ⟨by rw [HN.out]; rfl, rfl⟩
  · clear hl s
    go_enter Try.func27, Try.ntmps27
    go_wp2
    go_ret
    exact ⟨rfl, rfl⟩
theorem newsB {w : World} {g : Nat} {xs : List Value} {T : TypeId} (hb : Blk w g xs T) : ∀ j u, xs[j]? = some u → w.cell? ((⟨g, 0, none⟩ : Addr).add j) = some u := by
  intro j u hj
  rw [Addr.add_mid, Nat.zero_add]
  exact hb.cell hj
theorem own_lt {w : World} {base : Nat} {T : TypeId} {s n g : Nat} {v : Value} {xs : List Value} (h : w.ownsRow base T s v n xs) (hg : v.ownBlock = some g) : g < w.heap.size := (h.lt g hg).2
theorem Blk.kept2 {w w' : World} {q : Nat} {a b v : Value} {T : TypeId} (hb : Blk w q [a, b, v] T) (hk : Kept [] w w') : w'.cell? ⟨q, 2, none⟩ = some v := (hk.blk hb (by simp)).cell (i := 2) rfl
theorem Blk.drew2 {w : World} {q : Nat} {a b v : Value} {T : TypeId} (hb : Blk w q [a, b, v] T) : w.drew.cell? ⟨q, 2, none⟩ = some v := hb.drew.cell (i := 2) rfl
theorem own_some {w : World} {T : TypeId} {v : Value} {n : Nat} {xs : List Value} (h : w.ownsRow 0 T 13 v (n + 1) xs) : ∃ g c, v = .slice (some ⟨g, 0, none⟩) (n + 1) c := by
  rcases h with ⟨_, ⟨_, hn⟩ | ⟨g, cap, cur, rfl, _⟩⟩
  · omega
  · exact ⟨g, cap, rfl⟩
theorem cel_snoc (h : List It) (x : It) : cel (h ++ [x]) = cel h ++ itc x := by simp [cel]
theorem push_fin {w1 W w2 : World} {q gb cb : Nat} {v : Value} {room turns : Int} {h : List It} {x : It} (hq : Blk w1 q [.int .i64 room, .int .i64 turns, v] 79) (hne : v.ownBlock ≠ some q)
    (hk : Kept [] w1 W) (hg : W.grownBy w2 v.ownBlock) (ho : w2.ownsRow 0 81 13 (.slice (some ⟨gb, 0, none⟩) (h.length + 1) cb) (h.length + 1) (cel h ++ itc x))
    (ha : (Value.slice (some ⟨gb, 0, none⟩) (h.length + 1) cb).ownBlock = v.ownBlock ∨ (Value.slice (some ⟨gb, 0, none⟩) (h.length + 1) cb).ownBlock = some W.heap.size) :
    Qs (w2.setCell ⟨q, 2, none⟩ (.slice (some ⟨gb, 0, none⟩) (h.length + 1) cb)) q (.slice (some ⟨gb, 0, none⟩) (h.length + 1) cb) room turns (h ++ [x]) ∧
    Kept (q :: v.ownBlock.toList) w1 (w2.setCell ⟨q, 2, none⟩ (.slice (some ⟨gb, 0, none⟩) (h.length + 1) cb)) ∧
    ((Value.slice (some ⟨gb, 0, none⟩) (h.length + 1) cb).ownBlock = v.ownBlock ∨ ∃ g, (Value.slice (some ⟨gb, 0, none⟩) (h.length + 1) cb).ownBlock = some g ∧ w1.heap.size ≤ g) := by
  have hs := hk.size
  have hlt := hq.lt
  have hk2 : Kept v.ownBlock.toList W w2 := (Kept.refl _ _).grown hg (fun k e => .inl (by simp [e]))
  have hb := hk2.blk (hk.blk hq (by simp)) (by simp; exact hne)
  have hneq : (Value.slice (some ⟨gb, 0, none⟩) (h.length + 1) cb).ownBlock ≠ some q := by
    rcases ha with h1 | h1
    · rw [h1]; exact hne
    · rw [h1]; intro e; simp only [Option.some.injEq] at e; omega
  refine ⟨⟨hb.set 2 _, ?_, hneq⟩, ?_, ?_⟩
  · rw [cel_snoc]
    have e : (h ++ [x]).length = h.length + 1 := by simp
    rw [e]
    refine World.ownsRow.kept (row := some q) ho ⟨rfl, rfl, rfl, by simp [World.setCell], fun k hk hn => Below.heap_setCell _ _ _ _ (fun e => hn (congrArg some e))⟩ ?_
    exact .inr hneq
  · refine Kept.setCell ?_ (.inl (by simp)) _
    refine (hk.mono (cs := q :: v.ownBlock.toList) (by simp)).trans hk2 (fun _ h => h) (fun x hx => .inl (by simp at hx; simp [hx]))
  · rcases ha with h1 | h1
    · exact .inl h1
    · exact .inr ⟨_, h1, hs⟩
theorem kept_qg {bs : List Nat} {w w5 w6 : World} {q g : Nat} (h : Kept (q :: bs) w w5) (k : Kept [q, g] w5 w6) (hg : g ∈ q :: bs ∨ w.heap.size ≤ g) : Kept (q :: bs) w w6 :=
  h.trans k (fun _ h => h) (fun x hx => by
    simp only [List.mem_cons, List.not_mem_nil, or_false] at hx
    rcases hx with rfl | rfl
    · exact .inl (by simp)
    · exact hg)
theorem fieldIt (x : It) (w : World) : (Instr.field 81 (.agg (itc x).toArray) 2).run Try.prog w = .ok (.agg (dvl x.v).toArray) w := by kernel_rfl
/-- What a push leaves. -/
def PushP (w : World) (q : Nat) (v : Value) (room turns : Int) (h : List It) (x : It) (e : Ending) (w' : World) : Prop :=
  ∃ v', (if room < ((addL h x).length : Int) then e = .returned (.tuple #[.agg (dvl (at_ (addL h x) (lastK (addL h x) (addL h x).length)).v).toArray, .bool true]) ∧ Qs w' q v' room turns (takeL (addL h x) (lastK (addL h x) (addL h x).length)) else e = .returned (.tuple #[.agg (dvl dv0).toArray, .bool false]) ∧ Qs w' q v' room turns (addL h x)) ∧
    Kept (q :: v.ownBlock.toList) w w' ∧ (v'.ownBlock = v.ownBlock ∨ ∃ g, v'.ownBlock = some g ∧ w.heap.size ≤ g)
end Go.Proofs.Ytgdofgckjkmhjaa.Qd
