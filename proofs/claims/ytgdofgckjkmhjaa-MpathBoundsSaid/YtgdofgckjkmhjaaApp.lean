/- append, make and copy on slices of bytes: the kit's laws in the words of Row. -/
import Derived.Test.YtgdofgckjkmhjaaProg
import Derived.Test.YtgdofgckjkmhjaaRow
import Derived.Deep.RegionLawGrows
import Derived.Laws.AppendOwnNone
import Derived.OwnWalk
import Derived.KernelRfl
namespace Go.Proofs.Ytgdofgckjkmhjaa
open Go Go.RowKit
section
variable {P : Program} {w : World}
theorem run_app (base : Nat) (t ty e : TypeId) (i : TypeInfo) (z : Value) (size bytes : Nat) (ht : P.underlying t = some (.slice e)) (hi : P.info? e = some i) (hz : i.zero = some z)
    (hsize : i.size = size) (hby : i.bytes = bytes) (hzs : z.cells.size = size) (hsz : 0 < size)
    (v : Value) (n : Nat) (xs : List Value) (hown : w.ownsRow base e size v n xs)
    (ao : Option Addr) (m c : Nat) (news : List Value) (hl : news.length = m * size) (hnil : ao = none → c = 0) (hmc : m ≤ c) (hnews : ∀ ad, ao = some ad → ∀ j u, news[j]? = some u → w.cell? (ad.add j) = some u) (h1 : ∀ u ∈ news, u.oneCell' = true)
    (h63 : n + m ≤ maxLen) (hbytes : (n + m) * bytes ≤ 140737488355328) (hbase : base ≤ w.heap.size) :
    ∃ v' w', (Builtin.append_ #[t, t] ty #[v, .slice ao m c]).run P w = .ok v' w' ∧ w'.ownsRow base e size v' (n + m) (xs ++ news) ∧ w.grownBy w' v.ownBlock := by
  cases ao with
  | some ad =>
    obtain ⟨v', w', h1, h2, h3, _⟩ := run_append_own (P := P) w base t ty e i z size bytes ht hi hz hsize hby hzs hsz v n xs hown ad m c news hl (hnews ad rfl) h1 h63 hbytes hbase
    exact ⟨v', w', h1, h2, h3⟩
  | none =>
    obtain rfl := hnil rfl
    obtain rfl : m = 0 := by omega
    obtain rfl : news = [] := List.eq_nil_of_length_eq_zero (by simpa using hl)
    have hrun := run_append_owned_none (P := P) (w := w) base t ty e i size ht hi v n xs hown
    exact ⟨v, w, hrun, by simpa using hown, ⟨rfl, rfl, rfl, Nat.le_refl _, fun _ _ _ => rfl⟩⟩

theorem wpList_app {ops : Array Oper} {rest : List Oper} {o : Oper} {a : Act} {Q : Exit → Act → World → Prop} (hgd : o.guard = none) (s x : Operand) (t : TypeId)
    (ho : o.op = .call { callee := .builtin .append, args := #[s, x], argTypes := #[t, t] })
    (base : Nat) (e : TypeId) (z : Value) (size bytes : Nat) (hinfo : (P.info? e).map (fun i => (i.zero, i.size, i.bytes)) = some (some z, size, bytes)) (ht : P.underlying t = some (.slice e))
    (hzs : z.cells.size = size) (hsz : 0 < size)
    (v : Value) (n : Nat) (xs : List Value) (hs : a.eval s = v) (hown : w.ownsRow base e size v n xs)
    (ao : Option Addr) (m c : Nat) (news : List Value) (hx : a.eval x = .slice ao m c) (hl : news.length = m * size) (hnil : ao = none → c = 0) (hmc : m ≤ c) (hnews : ∀ ad, ao = some ad → ∀ j u, news[j]? = some u → w.cell? (ad.add j) = some u) (h1 : ∀ u ∈ news, u.oneCell' = true)
    (h63 : n + m ≤ maxLen) (hbytes : (n + m) * bytes ≤ 140737488355328) (hbase : base ≤ w.heap.size)
    (h : ∀ v' w', w'.ownsRow base e size v' (n + m) (xs ++ news) → w.grownBy w' v.ownBlock → wpList P ops Q rest (a.put o.dst v') w') : wpList P ops Q (o :: rest) a w := by
  obtain ⟨i, hi, hz0, hz1, hz2⟩ := info_parts hinfo
  refine wpList_plain hgd fun K hK => ?_
  obtain ⟨v', w', hrun, r1, r2⟩ := run_app (P := P) (w := w) base t o.type e i z size bytes ht hi hz0 hz1 hz2 hzs hsz v n xs hown ao m c news hl hnil hmc hnews h1 h63 hbytes hbase
  unfold Oper.wp execOp
  simp only [ho, resolve, invoke, builtin, Sem.run_bind, Sem.run_pure, Result.andThen_ok, List.map_toArray, List.map_cons, List.map_nil, hs, hx, hrun]
  exact hK _ _ (h v' w' r1 r2)

theorem step_app {ops : Array Oper} {o : Oper} {a : Act} {K : Act → World → Prop} {Q : Exit → Act → World → Prop} {E : Prop} (hgd : o.guard = none) (s x : Operand) (t : TypeId)
    (ho : o.op = .call { callee := .builtin .append, args := #[s, x], argTypes := #[t, t] })
    (base : Nat) (e : TypeId) (z : Value) (size bytes : Nat) (hinfo : (P.info? e).map (fun i => (i.zero, i.size, i.bytes)) = some (some z, size, bytes)) (ht : P.underlying t = some (.slice e))
    (hzs : z.cells.size = size) (hsz : 0 < size)
    (v : Value) (n : Nat) (xs : List Value) (hs : a.eval s = v) (hown : w.ownsRow base e size v n xs)
    (ao : Option Addr) (m c : Nat) (news : List Value) (hx : a.eval x = .slice ao m c) (hl : news.length = m * size) (hnil : ao = none → c = 0) (hmc : m ≤ c) (hnews : ∀ ad, ao = some ad → ∀ j u, news[j]? = some u → w.cell? (ad.add j) = some u) (h1 : ∀ u ∈ news, u.oneCell' = true)
    (h63 : n + m ≤ maxLen) (hbytes : (n + m) * bytes ≤ 140737488355328) (hbase : base ≤ w.heap.size)
    (h : ∀ v' w', w'.ownsRow base e size v' (n + m) (xs ++ news) → w.grownBy w' v.ownBlock → K (a.put o.dst v') w') : if Region.wanted o (yielded ops a.tmps) = true then Oper.wp P o a w K Q else E := by
  have hw : Region.wanted o (yielded ops a.tmps) = true := by simp [Region.wanted, hgd]
  rw [if_pos hw]
  obtain ⟨i, hi, hz0, hz1, hz2⟩ := info_parts hinfo
  obtain ⟨v', w', hrun, r1, r2⟩ := run_app (P := P) (w := w) base t o.type e i z size bytes ht hi hz0 hz1 hz2 hzs hsz v n xs hown ao m c news hl hnil hmc hnews h1 h63 hbytes hbase
  unfold Oper.wp execOp
  simp only [ho, resolve, invoke, builtin, Sem.run_bind, Sem.run_pure, Result.andThen_ok, List.map_toArray, List.map_cons, List.map_nil, hs, hx, hrun]
  exact h v' w' r1 r2
end
theorem Bts.news {w : World} {a : Option Addr} {m c : Nat} {l : List UInt8} (h : Bts w a m c l) : ∀ ad, a = Option.some ad → ∀ j u, (l.map bv)[j]? = Option.some u → w.cell? (ad.add j) = Option.some u := by
  rintro ad rfl j u hj
  rw [List.getElem?_map] at hj
  rcases Nat.lt_or_ge j l.length with hl | hl
  · obtain ⟨b, off, h1, h2⟩ := h.hcell j hl
    simp only [Option.some.injEq] at h1
    subst h1
    simp [hl, bv] at hj
    subst hj
    rcases Nat.eq_zero_or_pos j with rfl | h0
    · simpa [Addr.add] using h2
    · simpa [Addr.add, show j ≠ 0 by omega] using h2
  · simp [hl] at hj
theorem bv_one (l : List UInt8) : ∀ u ∈ l.map bv, u.oneCell' = true := by
  intro u hu
  simp only [List.mem_map] at hu
  obtain ⟨b, _, rfl⟩ := hu
  rfl
theorem infoU8 : (Try.prog.info? 5).map (fun i => (i.zero, i.size, i.bytes)) = some (some (.int .u8 0), 1, 1) := by kernel_rfl

theorem wpList_app8 {w : World} {ops : Array Oper} {rest : List Oper} {o : Oper} {a : Act} {Q : Exit → Act → World → Prop} (hgd : o.guard = none) (s x : Operand)
    (ho : o.op = .call { callee := .builtin .append, args := #[s, x], argTypes := #[32, 32] })
    (base : Nat) (v : Value) (n : Nat) (l : List UInt8) (hs : a.eval s = v) (hown : w.ownsRow base 5 1 v n (l.map bv))
    (ao : Option Addr) (m c : Nat) (k : List UInt8) (hx : a.eval x = .slice ao m c) (hk : Bts w ao m c k) (hroom : n + m ≤ 140737488355328) (hbase : base ≤ w.heap.size)
    (h : ∀ v' w', w'.ownsRow base 5 1 v' (n + m) ((l ++ k).map bv) → w.grownBy w' v.ownBlock → wpList Try.prog ops Q rest (a.put o.dst v') w') : wpList Try.prog ops Q (o :: rest) a w :=
  wpList_app hgd s x 32 ho base 5 (.int .u8 0) 1 1 infoU8 Try.underlying32 rfl (by decide) v n (l.map bv) hs hown ao m c (k.map bv) hx (by simp [hk.hlen]) hk.hnil hk.hle hk.news (bv_one k) (by unfold maxLen; omega) (by omega) hbase
    (fun v' w' r1 r2 => h v' w' (by rw [List.map_append]; exact r1) r2)
theorem step_app8 {w : World} {ops : Array Oper} {o : Oper} {a : Act} {K : Act → World → Prop} {Q : Exit → Act → World → Prop} {E : Prop} (hgd : o.guard = none) (s x : Operand)
    (ho : o.op = .call { callee := .builtin .append, args := #[s, x], argTypes := #[32, 32] })
    (base : Nat) (v : Value) (n : Nat) (l : List UInt8) (hs : a.eval s = v) (hown : w.ownsRow base 5 1 v n (l.map bv))
    (ao : Option Addr) (m c : Nat) (k : List UInt8) (hx : a.eval x = .slice ao m c) (hk : Bts w ao m c k) (hroom : n + m ≤ 140737488355328) (hbase : base ≤ w.heap.size)
    (h : ∀ v' w', w'.ownsRow base 5 1 v' (n + m) ((l ++ k).map bv) → w.grownBy w' v.ownBlock → K (a.put o.dst v') w') : if Region.wanted o (yielded ops a.tmps) = true then Oper.wp Try.prog o a w K Q else E :=
  step_app hgd s x 32 ho base 5 (.int .u8 0) 1 1 infoU8 Try.underlying32 rfl (by decide) v n (l.map bv) hs hown ao m c (k.map bv) hx (by simp [hk.hlen]) hk.hnil hk.hle hk.news (bv_one k) (by unfold maxLen; omega) (by omega) hbase
    (fun v' w' r1 r2 => h v' w' (by rw [List.map_append]; exact r1) r2)

theorem run_grow8 {w : World} (ty : TypeId) (ao : Option Addr) (n cap : Nat) (l : List UInt8) (hl : Bts w ao n cap l) (bo : Option Addr) (m c : Nat) (k : List UInt8) (hk : Bts w bo m c k) (hm : 0 < m) (hfull : cap < n + m) (hroom : n + m ≤ 140737488355328) :
    ∃ v' w', (Builtin.append_ #[32, 32] ty #[.slice ao n cap, .slice bo m c]).run Try.prog w = .ok v' w' ∧ w'.ownsRow w.heap.size 5 1 v' (n + m) ((l ++ k).map bv) ∧ w.grownBy w' none := by
  obtain ⟨i, hi, hz0, hz1, hz2⟩ := info_parts infoU8
  obtain ⟨b, o, rfl⟩ := hk.some (by have := hk.hlen; omega)
  cases ao with
  | some ad =>
    obtain ⟨v', w', hrun, r1, r2⟩ := run_append_arg_grows (P := Try.prog) w 32 ty 5 i (.int .u8 0) 1 1 Try.underlying32 hi hz0 hz1 hz2 rfl (by decide) ad n cap (l.map bv) (by simp [hl.hlen]) (hl.news ad rfl) ⟨b, o, none⟩ m c (k.map bv) (by simp [hk.hlen]) (hk.news _ rfl) hfull (by unfold maxLen; omega) (by omega)
    exact ⟨v', w', hrun, by rw [List.map_append]; exact r1, r2⟩
  | none =>
    obtain rfl := hl.hnil rfl
    obtain rfl : n = 0 := by have := hl.hle; omega
    obtain rfl : l = [] := List.eq_nil_of_length_eq_zero hl.hlen.symm
    obtain ⟨v', w', hrun, r1, r2, _⟩ := run_append_own (P := Try.prog) w w.heap.size 32 ty 5 i (.int .u8 0) 1 1 Try.underlying32 hi hz0 hz1 hz2 rfl (by decide) (.slice none 0 0) 0 [] (World.ownsRow_nil w _ _ 1) ⟨b, o, none⟩ m c (k.map bv) (by simp [hk.hlen]) (hk.news _ rfl) (bv_one k) (by unfold maxLen; omega) (by omega) (Nat.le_refl _)
    exact ⟨v', w', hrun, by simpa using r1, r2⟩
theorem wpList_grow8 {w : World} {ops : Array Oper} {rest : List Oper} {o : Oper} {a : Act} {Q : Exit → Act → World → Prop} (hgd : o.guard = none) (s x : Operand)
    (ho : o.op = .call { callee := .builtin .append, args := #[s, x], argTypes := #[32, 32] })
    (ao : Option Addr) (n cap : Nat) (l : List UInt8) (hs : a.eval s = .slice ao n cap) (hl : Bts w ao n cap l)
    (bo : Option Addr) (m c : Nat) (k : List UInt8) (hx : a.eval x = .slice bo m c) (hk : Bts w bo m c k) (hm : 0 < m) (hfull : cap < n + m) (hroom : n + m ≤ 140737488355328)
    (h : ∀ v' w', w'.ownsRow w.heap.size 5 1 v' (n + m) ((l ++ k).map bv) → w.grownBy w' none → wpList Try.prog ops Q rest (a.put o.dst v') w') : wpList Try.prog ops Q (o :: rest) a w := by
  refine wpList_plain hgd fun K hK => ?_
  obtain ⟨v', w', hrun, r1, r2⟩ := run_grow8 (w := w) o.type ao n cap l hl bo m c k hk hm hfull hroom
  unfold Oper.wp execOp
  simp only [ho, resolve, invoke, builtin, Sem.run_bind, Sem.run_pure, Result.andThen_ok, List.map_toArray, List.map_cons, List.map_nil, hs, hx, hrun]
  exact hK _ _ (h v' w' r1 r2)
theorem wpList_cpy8 {w : World} {ops : Array Oper} {rest : List Oper} {o : Oper} {a : Act} {Q : Exit → Act → World → Prop} (hgd : o.guard = none) (d s : Operand)
    (ho : o.op = .call { callee := .builtin .copy, args := #[d, s], argTypes := #[32, 32] })
    (g off dLen dCap : Nat) (hd : a.eval d = .slice (some ⟨g, off, none⟩) dLen dCap) (xs : List Value) (hg : Blk w g xs 5)
    (ao : Option Addr) (m c : Nat) (k : List UInt8) (hs : a.eval s = .slice ao m c) (hk : Bts w ao m c k) (hfit : m ≤ dLen) (hroom : off + m ≤ xs.length)
    (h : ∀ w', Blk w' g (splice xs off (k.map bv)) 5 → Kept [g] w w' → wpList Try.prog ops Q rest (a.put o.dst (.int .i64 m)) w') : wpList Try.prog ops Q (o :: rest) a w := by
  have hm := hk.hlen
  have hlt := hg.lt
  obtain ⟨i, hi, hz0, hz1, hz2⟩ := info_parts infoU8
  by_cases h0 : m = 0
  · refine wpList_copy_nothing hgd d s 32 32 ho 5 Try.underlying32 (by rw [hi]; simp [hz1]) _ _ _ _ _ _ hd hs (by rw [h0]; simp) ?_
    have hn : k = [] := List.eq_nil_of_length_eq_zero (by omega)
    have := h w (by rw [hn]; simpa [splice] using hg) (Kept.refl _ _)
    rw [h0] at this
    exact this
  · obtain ⟨b, o2, rfl⟩ := hk.some (by omega)
    refine wpList_copy_own hgd d s 32 32 ho 5 Try.underlying32 (by rw [hi]; simp [hz1]) g off dLen dCap _ m c hd hs xs.toArray 5 hg (k.map bv) (by rw [List.length_map, ← hm]; exact (Nat.min_eq_left hfit).symm) (hk.news _ rfl) (by simpa [← hm] using hroom) (bv_one k) ?_
    have hmm : (goInt ((k.map bv).length)) = .int .i64 (m : Int) := by rw [List.length_map, ← hm]; rfl
    rw [hmm]
    refine h _ ?_ ?_
    · show _ = _
      simpa [splice] using setRow_heap w g _ _ 5 _ hg
    · exact ⟨rfl, rfl, rfl, by simp [World.setRow], fun j hj hn => setRow_other w g j _ (by simpa using hn)⟩
theorem makeU8c (n c : Nat) (hnc : n ≤ c) (h : c ≤ 281474976710656) (w : World) : (Instr.makeSlice 32 (.int .i64 (n : Int)) (.int .i64 (c : Int))).run Try.prog w = .ok (.slice (some ⟨w.heap.size, 0, none⟩) n c) (w.alloc (.cells (madeCells #[.int .u8 0] c) 5)) := by
  obtain ⟨i0, hi, hz0, hz1, hz2⟩ := info_parts infoU8
  have hr := run_make (P := Try.prog) w 32 5 i0 (.int .u8 0) Try.underlying32 hi hz0 .i64 .i64 n c (by omega) (by omega) (by rw [hz2]; omega) (by omega)
  rw [hz1] at hr
  simp only [Int.toNat_natCast, Nat.mul_one] at hr
  exact hr
theorem makeU8 (n : Nat) (h : n ≤ 281474976710656) (w : World) : (Instr.makeSlice 32 (.int .i64 (n : Int)) (.int .i64 (n : Int))).run Try.prog w = .ok (.slice (some ⟨w.heap.size, 0, none⟩) n n) (w.alloc (.cells (madeCells #[.int .u8 0] n) 5)) :=
  makeU8c n n (Nat.le_refl _) h w
/-- A slice of the first n cells of a block that is the call's own. -/
theorem own_part {w : World} {base : Nat} {T : TypeId} {b : Nat} {xs ys : List Value} {n cap : Nat} (h : Blk w b ys T) (hb : base ≤ b) (hc : ys.length = cap) (hm : cap ≤ maxLen) (hn : n ≤ cap) (hx : ys.take n = xs) : w.ownsRow base T 1 (.slice (some ⟨b, 0, none⟩) n cap) n xs :=
  ⟨by rw [← hx, List.length_take]; omega, .inr ⟨b, cap, ys.toArray, rfl, hb, h, hn, hm, by simp [hc], by simpa using hx⟩⟩
end Go.Proofs.Ytgdofgckjkmhjaa
