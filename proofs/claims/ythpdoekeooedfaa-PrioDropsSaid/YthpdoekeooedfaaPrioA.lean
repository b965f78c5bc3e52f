import Derived.Test.YthpdoekeooedfaaPrioK
import Derived.Test.YthpdoekeooedfaaApg
import Derived.Maps.AppendAt
import Derived.Deep.RegionLaw
namespace Go.Proofs.Ythpdoekeooedfaa
open Go Go.RowKit
section
variable {P : Program} {w : World}
theorem step_app_at {ops : Array Oper} {o : Oper} {a : Act} {K : Act → World → Prop} {Q : Exit → Act → World → Prop} {E : Prop} (hgd : o.guard = none) (s x : Operand) (t : TypeId)
    (ho : o.op = .call { callee := .builtin .append, args := #[s, x], argTypes := #[t, t] })
    (base : Nat) (e : TypeId) (z : Value) (size bytes : Nat) (hinfo : (P.info? e).map (fun i => (i.zero, i.size, i.bytes)) = some (some z, size, bytes)) (ht : P.underlying t = some (.slice e))
    (hzs : z.cells.size = size) (hsz : 0 < size)
    (v : Value) (n : Nat) (xs : List Value) (hs : a.eval s = v) (hown : w.ownsRow base e size v n xs)
    (ad : Addr) (m c : Nat) (news : List Value) (hx : a.eval x = .slice (some ad) m c) (hl : news.length = m * size) (hnews : ∀ j u, news[j]? = some u → w.cell? (ad.add j) = some u) (h1 : ∀ u ∈ news, u.oneCell' = true)
    (h63 : n + m ≤ maxLen) (hbytes : (n + m) * bytes ≤ 140737488355328) (hbase : base ≤ w.heap.size)
    (h : ∀ v' w', w'.ownsRow base e size v' (n + m) (xs ++ news) → w.grownBy w' v.ownBlock → (v'.ownBlock = v.ownBlock ∨ v'.ownBlock = some w.heap.size) → K (a.put o.dst v') w') : if Region.wanted o (yielded ops a.tmps) = true then Oper.wp P o a w K Q else E := by
  have hw : Region.wanted o (yielded ops a.tmps) = true := by simp [Region.wanted, hgd]
  rw [if_pos hw]
  obtain ⟨i, hi, hz0, hz1, hz2⟩ := info_parts hinfo
  obtain ⟨v', w', hrun, r1, r2, _, r4⟩ := run_append_own_at (P := P) w base t o.type e i z size bytes ht hi hz0 hz1 hz2 hzs hsz v n xs hown ad m c news hl hnews h1 h63 hbytes hbase
  unfold Oper.wp execOp
  simp only [ho, resolve, invoke, builtin, Sem.run_bind, Sem.run_pure, Result.andThen_ok, List.map_toArray, List.map_cons, List.map_nil, hs, hx, hrun]
  exact h v' w' r1 r2 r4
end
theorem infoIt3 : (Try.prog.info? 55).map (fun i => (i.zero, i.size, i.bytes)) = some (some (.agg #[.int .i64 0, .int .i64 0, .int .i64 0]), 3, 24) := by kernel_rfl
/-- A queue, whatever its slice is. -/
structure Qs (w : World) (q : Nat) (v : Value) (room turns : Int) (h : List It) : Prop where
  hq : Blk w q [.int .i64 room, .int .i64 turns, v] 53
  own : w.ownsRow 0 55 3 v h.length (cel h)
  ne : v.ownBlock ≠ some q
theorem Qs.toQm {w : World} {q : Nat} {v : Value} {room turns : Int} {h : List It} (s : Qs w q v room turns h) (h0 : 0 < h.length) :
    ∃ g cap rest, v = .slice (some ⟨g, 0, none⟩) h.length cap ∧ Qm w q g cap room turns h rest := by
  obtain ⟨hl, hr⟩ := s.own
  rcases hr with ⟨_, hn⟩ | ⟨g, cap, cur, rfl, _, hg, hn, hc, hs, ht⟩
  · omega
  · have hcur : cel h ++ cur.toList.drop (h.length * 3) = cur.toList := by rw [← ht, List.take_append_drop]
    refine ⟨g, cap, cur.toList.drop (h.length * 3), rfl, s.hq, ?_, hn, hc, ?_, ?_⟩
    · unfold Blk; rw [hcur]; exact hg
    · rw [hcur]; simpa using hs
    · rintro rfl; exact s.ne rfl
theorem Qm.toQs {w : World} {q g cap : Nat} {room turns : Int} {h : List It} {rest : List Value} (m : Qm w q g cap room turns h rest) : Qs w q (.slice (some ⟨g, 0, none⟩) h.length cap) room turns h := by
  have hl := cel_len h
  refine ⟨m.hq, ⟨by omega, .inr ⟨g, cap, (cel h ++ rest).toArray, rfl, Nat.zero_le _, m.hg, m.hl, m.hcap, by simpa using m.hrest, ?_⟩⟩, ?_⟩
  · simp only
    rw [List.take_left' (by omega)]
  · simp [Value.ownBlock]; exact Ne.symm m.hne
theorem Qs.new {w : World} {q : Nat} {room : Int} (hb : Blk w q [.int .i64 room, .int .i64 0, .slice none 0 0] 53) : Qs w q (.slice none 0 0) room 0 [] :=
  ⟨hb, World.ownsRow_nil _ _ _ 3, by simp [Value.ownBlock]⟩
set_option maxHeartbeats 800000 in
theorem len_any (q : Nat) (v : Value) (room turns : Int) (h : List It) (w : World) (s : Qs w q v room turns h) :
    Calls Try.prog 11 #[.pointer (some ⟨q, 0, none⟩)] w fun e w' => e = .returned (.int .i64 h.length) ∧ w = w' := by
  have c2 := s.hq.cell (i := 2) rfl
  rcases s.own with ⟨hl, ⟨rfl, hn⟩ | ⟨g, cap, cur, rfl, _, _, _, hc, _⟩⟩
  · have HN := Lib.hid hn
    clear hn hl s
    go_enter Try.func11, Try.ntmps11
    go_wp2
    go_ret
    exact ⟨by rw [HN.out]; rfl, rfl⟩
  · clear hl s
    go_enter Try.func11, Try.ntmps11
    go_wp2
    go_ret
    exact ⟨rfl, rfl⟩
theorem news3 (w : World) (x : It) (T : TypeId) : ∀ j u, (itc x)[j]? = some u → (w.alloc (.cells #[.int .i64 x.rank, .int .i64 x.turn, .int .i64 x.v] T)).cell? ((⟨w.heap.size, 0, none⟩ : Addr).add j) = some u := by
  intro j u hj
  have hb := Blk.new w (itc x) T
  have h := hb.cell hj
  have e : (⟨w.heap.size, 0, none⟩ : Addr).add j = ⟨w.heap.size, j, none⟩ := by
    rcases Nat.eq_zero_or_pos j with rfl | h0
    · simp [Addr.add]
    · simp [Addr.add, show j ≠ 0 by omega]
  rw [e]
  exact h
theorem own_some {w : World} {T : TypeId} {v : Value} {n : Nat} {xs : List Value} (h : w.ownsRow 0 T 3 v (n + 1) xs) : ∃ g c, v = .slice (some ⟨g, 0, none⟩) (n + 1) c := by
  rcases h with ⟨_, ⟨_, hn⟩ | ⟨g, cap, cur, rfl, _⟩⟩
  · omega
  · exact ⟨g, cap, rfl⟩
theorem cel_snoc (h : List It) (x : It) : cel (h ++ [x]) = cel h ++ itc x := by simp [cel]
theorem push_fin {w1 W w2 : World} {q gb cb : Nat} {v : Value} {room turns : Int} {h : List It} {x : It} (hq : Blk w1 q [.int .i64 room, .int .i64 turns, v] 53) (hne : v.ownBlock ≠ some q)
    (hk : Kept [] w1 W) (hg : W.grownBy w2 v.ownBlock) (ho : w2.ownsRow 0 55 3 (.slice (some ⟨gb, 0, none⟩) (h.length + 1) cb) (h.length + 1) (cel h ++ itc x))
    (ha : (Value.slice (some ⟨gb, 0, none⟩) (h.length + 1) cb).ownBlock = v.ownBlock ∨ (Value.slice (some ⟨gb, 0, none⟩) (h.length + 1) cb).ownBlock = some W.heap.size) :
    Qs (w2.setCell ⟨q, 2, none⟩ (.slice (some ⟨gb, 0, none⟩) (h.length + 1) cb)) q (.slice (some ⟨gb, 0, none⟩) (h.length + 1) cb) room turns (h ++ [x]) ∧
    Kept (q :: v.ownBlock.toList) w1 (w2.setCell ⟨q, 2, none⟩ (.slice (some ⟨gb, 0, none⟩) (h.length + 1) cb)) ∧
    ((Value.slice (some ⟨gb, 0, none⟩) (h.length + 1) cb).ownBlock = v.ownBlock ∨ ∃ g, (Value.slice (some ⟨gb, 0, none⟩) (h.length + 1) cb).ownBlock = some g ∧ w1.heap.size ≤ g) := by
  have hs := hk.size
  have hlt := hq.lt
  have hk2 : Kept v.ownBlock.toList W w2 := (Kept.refl _ _).grown hg (fun k e => .inl (by simp [e]))
  have hb := hk2.blk (hk.blk hq (by simp)) (by simp; exact hne)
  have hneq : (Value.slice (some ⟨gb, 0, none⟩) (h.length + 1) cb).ownBlock ≠ some q := by
    rcases ha with h1 | h1
    · rw [h1]; exact hne
    · rw [h1]; intro e; simp only [Option.some.injEq] at e; omega
  refine ⟨⟨hb.set 2 _, ?_, hneq⟩, ?_, ?_⟩
  · rw [cel_snoc]
    have e : (h ++ [x]).length = h.length + 1 := by simp
    rw [e]
    refine World.ownsRow.kept (row := some q) ho ⟨rfl, rfl, rfl, by simp [World.setCell], fun k hk hn => Below.heap_setCell _ _ _ _ (fun e => hn (congrArg some e))⟩ ?_
    exact .inr hneq
  · refine Kept.setCell ?_ (.inl (by simp)) _
    refine (hk.mono (cs := q :: v.ownBlock.toList) (by simp)).trans hk2 (fun _ h => h) (fun x hx => .inl (by simp at hx; simp [hx]))
  · rcases ha with h1 | h1
    · exact .inl h1
    · exact .inr ⟨_, h1, hs⟩
theorem kept_qg {bs : List Nat} {w w5 w6 : World} {q g : Nat} (h : Kept (q :: bs) w w5) (k : Kept [q, g] w5 w6) (hg : g ∈ q :: bs ∨ w.heap.size ≤ g) : Kept (q :: bs) w w6 :=
  h.trans k (fun _ h => h) (fun x hx => by
    simp only [List.mem_cons, List.not_mem_nil, or_false] at hx
    rcases hx with rfl | rfl
    · exact .inl (by simp)
    · exact hg)
theorem fieldIt (a b c : Int) (w : World) : (Instr.field 55 (.agg #[.int .i64 a, .int .i64 b, .int .i64 c]) 2).run Try.prog w = .ok (.int .i64 c) w := by kernel_rfl
/-- What a push leaves. -/
def PushP (w : World) (q : Nat) (v : Value) (room turns : Int) (h : List It) (x : It) (e : Ending) (w' : World) : Prop :=
  ∃ v', (if room < ((addL h x).length : Int) then e = .returned (.tuple #[.int .i64 (at_ (addL h x) (lastK (addL h x) (addL h x).length)).v, .bool true]) ∧ Qs w' q v' room turns (takeL (addL h x) (lastK (addL h x) (addL h x).length)) else e = .returned (.tuple #[.int .i64 0, .bool false]) ∧ Qs w' q v' room turns (addL h x)) ∧
    Kept (q :: v.ownBlock.toList) w w' ∧ (v'.ownBlock = v.ownBlock ∨ ∃ g, v'.ownBlock = some g ∧ w.heap.size ≤ g)
set_option maxRecDepth 100000 in
set_option maxHeartbeats 6400000 in
theorem push_any (q : Nat) (v : Value) (room turns rank x : Int) (h : List It) (w : World) (s : Qs w q v room turns h) (hb : h.length ≤ 100000) (ht0 : 0 ≤ turns) (ht1 : turns ≤ 1000000) :
    Calls Try.prog 9 #[.pointer (some ⟨q, 0, none⟩), .int .i64 rank, .int .i64 x] w (PushP w q v room (turns + 1) h ⟨rank, turns + 1, x⟩) := by
  have c1 := s.hq.cell (i := 1) rfl
  have hf := s.hq.free
  have hqs := s.hq.set 1 (.int .i64 (turns + 1))
  have hqs' : Blk (w.setCell ⟨q, 1, none⟩ (.int .i64 (turns + 1))) q [.int .i64 room, .int .i64 (turns + 1), v] 53 := hqs
  have hown : (w.setCell ⟨q, 1, none⟩ (.int .i64 (turns + 1))).ownsRow 0 55 3 v h.length (cel h) := by
    refine World.ownsRow.kept (row := some q) s.own ⟨rfl, rfl, rfl, by simp [World.setCell], fun k hk hn => Below.heap_setCell _ _ _ _ (fun e => hn (congrArg some e))⟩ ?_
    exact .inr s.ne
  have hk1 : Kept [q] w (w.setCell ⟨q, 1, none⟩ (.int .i64 (turns + 1))) := (Kept.refl _ _).setCell (.inl (by simp)) _
  have HS := Lib.hid s
  clear s hqs
  go_enter Try.func9, Try.ntmps9
  go_upto_region 2 with fail
  generalize w.setCell ⟨q, 1, none⟩ (.int .i64 (turns + 1)) = w1 at *
  have HOwn := Lib.hid hown
  have HK1 := Lib.hid hk1
  have HQ := Lib.hid hqs'
  have d1 := hqs'.cell (i := 1) rfl
  have d2 := hqs'.cell (i := 2) rfl
  have e1 := World.new_ne w1 _ d1
  have e2 := World.new_ne w1 _ d2
  have df := hqs'.free
  have hlt := hqs'.lt
  have HG : ∀ W w2 : World, Kept [] w1 W → W.grownBy w2 v.ownBlock → w2.cell? ⟨q, 2, none⟩ = some v ∧ w2.frozen? ⟨q, 2, none⟩ = false := fun W w2 hk hg => by
    have hk2 : Kept v.ownBlock.toList W w2 := (Kept.refl _ _).grown hg (fun k e => .inl (by simp [e]))
    have hb := hk2.blk (hk.blk HQ.out (by simp)) (by simp; exact HS.out.ne)
    exact ⟨hb.cell (i := 2) rfl, hb.free 2⟩
  have HGH := Lib.hid HG
  clear c1 hf hown hk1 hqs' HG
  go_cut [6] (fun s6 wx => s6 = .int .i64 0 ∧ ∃ v', Qs wx q v' room (turns + 1) (h ++ [⟨rank, turns + 1, x⟩]) ∧ Kept (q :: v.ownBlock.toList) w1 wx ∧ (v'.ownBlock = v.ownBlock ∨ ∃ g, v'.ownBlock = some g ∧ w1.heap.size ≤ g))
  case first =>
    go_region_law ((refine step_app_at rfl (.tmp 20) (.tmp 28) 51 rfl 0 55 _ 3 24 infoIt3 Try.underlying51 rfl (by omega) v h.length (cel h) rfl (HOwn.out.alloc _) ⟨w1.heap.size, 0, none⟩ 1 1 (itc ⟨rank, turns + 1, x⟩) rfl rfl (news3 w1 ⟨rank, turns + 1, x⟩ _) (itc_one _) (by unfold maxLen; omega) (by omega) (Nat.zero_le _) ?_; intro v2 w2 o2 g2 at2; have zz := HGH.out _ _ (by repeat (first | exact Kept.refl _ _ | apply Kept.drew | apply Kept.alloc)) g2; obtain ⟨z1, z2⟩ := zz; obtain ⟨gb, cb, ev⟩ := own_some o2; subst ev))
    all_goals (go_wp2_with fail)
    all_goals (go_meet; exact ⟨rfl, _, push_fin HQ.out HS.out.ne (by repeat (first | exact Kept.refl _ _ | apply Kept.drew | apply Kept.alloc)) g2 o2 at2⟩)
  case rest =>
    obtain ⟨rfl, v', hs', hk', hn'⟩ := hcut
    clear d1 d2 e1 e2 df HOwn HGH
    have hl1 : (h ++ [(⟨rank, turns + 1, x⟩ : It)]).length = h.length + 1 := by simp
    obtain ⟨g, cap, rest, hv', m⟩ := hs'.toQm (by rw [hl1]; omega)
    subst hv'
    have hlA := add_len h ⟨rank, turns + 1, x⟩
    have hgv : g ∈ q :: v.ownBlock.toList ∨ w.heap.size ≤ g := by
      have hsz := HK1.out.size
      rcases hn' with h1 | ⟨g', h1, h2⟩
      · simp only [Value.ownBlock] at h1
        exact .inl (by simp; exact .inr h1.symm)
      · simp only [Value.ownBlock, Option.some.injEq] at h1
        right; omega
    have hk0 : Kept (q :: v.ownBlock.toList) w wc := HK1.out.trans hk' (by simp) (fun x hx => .inl hx)
    have hnf : (Value.slice (some ⟨g, 0, none⟩) 0 cap).ownBlock = v.ownBlock ∨ ∃ g', (Value.slice (some ⟨g, 0, none⟩) 0 cap).ownBlock = some g' ∧ w.heap.size ≤ g' := by
      have hsz := HK1.out.size
      rcases hn' with h1 | ⟨g', h1, h2⟩
      · exact .inl h1
      · exact .inr ⟨g', h1, by omega⟩
    have HGV := Lib.hid hgv
    have HK := Lib.hid hk0
    have HNF := Lib.hid hnf
    have HU := Lib.hid (up_any q g cap h.length room (turns + 1) (h ++ [⟨rank, turns + 1, x⟩]) rest wc m (by rw [hl1]; omega) (by rw [hl1]; omega))
    have c2 := m.hq.cell (i := 2) rfl
    rw [hl1] at c2
    have c2' : wc.cell? ⟨q, 2, none⟩ = some (.slice (some ⟨g, 0, none⟩) (h.length + 1) cap) := c2
    have HLA := Lib.hid hlA
    have hq2 := m.hne
    have HA : Hid (addL h ⟨rank, turns + 1, x⟩ = upL (h ++ [⟨rank, turns + 1, x⟩]) h.length) := rfl
    clear c2 m hs' hk' hn' hl1 hgv hk0 hnf hlA
    go_wp2_with fail
    refine HU.out.mono ?_
    rintro e w3 ⟨rfl, m3, hk3⟩
    rw [← HA.out] at m3
    have hk03 : Kept (q :: v.ownBlock.toList) w w3 := HK.out.trans hk3 (fun _ h => h) (by intro x hx; simp only [List.mem_cons, List.not_mem_nil, or_false] at hx; subst hx; exact HGV.out)
    clear c2'
    have HPA := Lib.hid (show PushP w q v room (turns + 1) h ⟨rank, turns + 1, x⟩ = fun e w' => ∃ v', (if room < ((addL h ⟨rank, turns + 1, x⟩).length : Int) then e = .returned (.tuple #[.int .i64 (at_ (addL h ⟨rank, turns + 1, x⟩) (lastK (addL h ⟨rank, turns + 1, x⟩) (addL h ⟨rank, turns + 1, x⟩).length)).v, .bool true]) ∧ Qs w' q v' room (turns + 1) (takeL (addL h ⟨rank, turns + 1, x⟩) (lastK (addL h ⟨rank, turns + 1, x⟩) (addL h ⟨rank, turns + 1, x⟩).length)) else e = .returned (.tuple #[.int .i64 0, .bool false]) ∧ Qs w' q v' room (turns + 1) (addL h ⟨rank, turns + 1, x⟩)) ∧ Kept (q :: v.ownBlock.toList) w w' ∧ (v'.ownBlock = v.ownBlock ∨ ∃ g, v'.ownBlock = some g ∧ w.heap.size ≤ g) from rfl)
    generalize addL h ⟨rank, turns + 1, x⟩ = h2 at *
    have c0 := m3.hq.cell (i := 0) rfl
    have c2 : w3.cell? ⟨q, 2, none⟩ = some (.slice (some ⟨g, 0, none⟩) h2.length cap) := m3.hq.cell (i := 2) rfl
    have hl2 : 0 < h2.length := by rw [HLA.out]; omega
    have hb2 : h2.length ≤ 1000000 := by rw [HLA.out]; omega
    go_upto_region 4 with fail
    go_cut [49] (fun s49 wx => s49 = .bool (decide (room < (h2.length : Int))) ∧ Kept [] w3 wx)
    case first =>
      go_quiet (fail)
      all_goals (go_wp2_with fail)
      all_goals (go_meet; exact ⟨rfl, (Kept.refl _ _).drewN _⟩)
    case rest =>
      obtain ⟨rfl, hkx⟩ := hcut
      have m4 := m3.kept hkx
      have hk04 := hk03.trans0 hkx
      clear m3 hk3 hk03 hkx c0 c2
      have HK4 := Lib.hid hk04
      clear hk04
      by_cases hr : room < (h2.length : Int)
      · have d := decide_eq_true hr
        rw [d]
        have HR := Lib.hid hr
        clear d hr
        go_wp2_with fail
        refine (last_any q g cap room (turns + 1) h2 rest _ m4 hl2 hb2).mono ?_
        rintro e w5 ⟨rfl, hk5⟩
        have m5 := m4.kept hk5
        have hk05 := HK4.out.trans0 hk5
        clear m4 hk5
        go_wp2_with fail
        refine (take_any q g cap (lastK h2 h2.length) _ room (turns + 1) h2 rest _ m5 (lastK_lt' h2 _ hl2) hb2 rfl).mono ?_
        rintro e w6 ⟨rfl, m6, hk6⟩
        have hk06 := kept_qg hk05 hk6 HGV.out
        have hs6 := m6.toQs
        clear m5 m6 hk6 hk05
        rw [show (itc (at_ h2 (lastK h2 h2.length))).toArray = #[.int .i64 (at_ h2 (lastK h2 h2.length)).rank, .int .i64 (at_ h2 (lastK h2 h2.length)).turn, .int .i64 (at_ h2 (lastK h2 h2.length)).v] from rfl]
        have hfi := fieldIt (at_ h2 (lastK h2 h2.length)).rank (at_ h2 (lastK h2 h2.length)).turn (at_ h2 (lastK h2 h2.length)).v
        go_wp2
        go_ret2
        rw [HPA.out]
        refine ⟨.slice (some ⟨g, 0, none⟩) (takeL h2 (lastK h2 h2.length)).length cap, ?_, hk06, HNF.out⟩
        rw [if_pos (by have := HR.out; omega)]
        exact ⟨rfl, hs6⟩
      · have d := decide_eq_false hr
        rw [d]
        have HR := Lib.hid hr
        clear d hr
        go_wp2
        go_ret2
        rw [HPA.out]
        refine ⟨.slice (some ⟨g, 0, none⟩) h2.length cap, ?_, HK4.out, HNF.out⟩
        rw [if_neg (by have := HR.out; omega)]
        exact ⟨rfl, m4.toQs⟩
end Go.Proofs.Ythpdoekeooedfaa
