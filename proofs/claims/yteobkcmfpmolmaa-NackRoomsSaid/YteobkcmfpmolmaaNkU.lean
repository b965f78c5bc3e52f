/- The document's nack: Tick, the parting. -/
import Derived.Test.YteobkcmfpmolmaaNkS
import Derived.Test.YteobkcmfpmolmaaApx
import Derived.Test.YteobkcmfpmolmaaTnH
import Derived.Test.YteobkcmfpmolmaaTnI
namespace Go.Proofs.Yteobkcmfpmolmaa
open Go Go.RowKit
section
variable {P : Program} {w : World}
theorem wpList_app_at {ops : Array Oper} {rest : List Oper} {o : Oper} {a : Act} {Q : Exit → Act → World → Prop} (hgd : o.guard = none) (s x : Operand) (t : TypeId)
    (ho : o.op = .call { callee := .builtin .append, args := #[s, x], argTypes := #[t, t] })
    (base : Nat) (e : TypeId) (z : Value) (size bytes : Nat) (hinfo : (P.info? e).map (fun i => (i.zero, i.size, i.bytes)) = some (some z, size, bytes)) (ht : P.underlying t = some (.slice e))
    (hzs : z.cells.size = size) (hsz : 0 < size)
    (v : Value) (n : Nat) (xs : List Value) (hs : a.eval s = v) (hown : w.ownsRow base e size v n xs)
    (ad : Addr) (m c : Nat) (news : List Value) (hx : a.eval x = .slice (some ad) m c) (hl : news.length = m * size) (hnews : ∀ j u, news[j]? = some u → w.cell? (ad.add j) = some u) (h1 : ∀ u ∈ news, u.oneCell' = true)
    (h63 : n + m ≤ maxLen) (hbytes : (n + m) * bytes ≤ 140737488355328) (hbase : base ≤ w.heap.size)
    (h : ∀ v' w', w'.ownsRow base e size v' (n + m) (xs ++ news) → w.grownBy w' v.ownBlock → (v'.ownBlock = v.ownBlock ∨ v'.ownBlock = some w.heap.size) → wpList P ops Q rest (a.put o.dst v') w') : wpList P ops Q (o :: rest) a w := by
  obtain ⟨i, hi, hz0, hz1, hz2⟩ := info_parts hinfo
  refine wpList_plain hgd fun K hK => ?_
  obtain ⟨v', w', hrun, r1, r2, _, r4⟩ := run_append_own_at (P := P) w base t o.type e i z size bytes ht hi hz0 hz1 hz2 hzs hsz v n xs hown ad m c news hl hnews h1 h63 hbytes hbase
  unfold Oper.wp execOp
  simp only [ho, resolve, invoke, builtin, Sem.run_bind, Sem.run_pure, Result.andThen_ok, List.map_toArray, List.map_cons, List.map_nil, hs, hx, hrun]
  exact hK _ _ (h v' w' r1 r2 r4)
end
theorem news2a {w : World} {g : Nat} {xs : List Value} {T : TypeId} (h : Blk w g xs T) : ∀ j u, xs[j]? = some u → w.cell? ((⟨g, 0, none⟩ : Addr).add j) = some u := by
  intro j u hu
  rw [Addr.add_mid]
  simp only [Nat.zero_add]
  exact h.cell hu
theorem own_frame {bs : List Nat} {w w2 : World} {base size : Nat} {e : TypeId} {v : Value} {n : Nat} {xs : List Value} (h : w.ownsRow base e size v n xs) (hk : Kept bs w w2) (hb : ∀ g, v.ownBlock = some g → g ∉ bs) : w2.ownsRow base e size v n xs :=
  own_kept3 h (fun g _ hg hc => hk.block g (Array.getElem?_eq_some_iff.1 hc).1 (hb g hg))
theorem own_row {w w2 : World} {base size : Nat} {e : TypeId} {v : Value} {n : Nat} {xs : List Value} {row : Option Nat} (h : w.ownsRow base e size v n xs) (hg : w.grownBy w2 row) (hr : ∀ g, v.ownBlock = some g → row ≠ some g) : w2.ownsRow base e size v n xs :=
  own_kept3 h (fun g _ hgv hc => hg.block g (Array.getElem?_eq_some_iff.1 hc).1 (fun e => hr g hgv e.symm))
theorem zeroItem (w : World) : (zeroValue 56).run Try.prog w = .ok (.agg #[.int .u32 0, .int .i64 0, .int .i64 0]) w := by kernel_rfl
theorem told_step (l : List It) (i : Nat) (hi : i < l.length) : toldN (l.take (i + 1)) = toldN (l.take i) ++ (if (l.getD i it0).2.1 - 1 ≤ 0 then [agoN (l.getD i it0)] else []) ∧ restN (l.take (i + 1)) = restN (l.take i) ++ (if (l.getD i it0).2.1 - 1 ≤ 0 then [] else [agoN (l.getD i it0)]) := by
  unfold toldN restN
  rw [List.take_add_one, List.getElem?_eq_getElem hi, List.map_append, List.filter_append, List.filter_append]
  have e : l.getD i it0 = l[i] := by simp [List.getD, hi]
  rw [e]
  by_cases h : l[i].2.1 - 1 ≤ 0
  · simp [agoN, h]
  · simp [agoN, h]
theorem told_len (l : List It) : (toldN l).length ≤ l.length := by
  unfold toldN
  have h := List.length_filter_le (fun y : It => decide (y.2.1 ≤ 0)) (l.map agoN)
  simpa using h
theorem rest_len (l : List It) : (restN l).length ≤ l.length := by
  unfold restN
  have h := List.length_filter_le (fun y : It => !decide (y.2.1 ≤ 0)) (l.map agoN)
  simpa using h
/-- The two lists of the parting: rows of their own. -/
structure Two (wr : World) (base : Nat) (u v : Value) (x y : List It) : Prop where
  a : wr.ownsRow base 56 3 u x.length (cl3 x)
  b : wr.ownsRow base 56 3 v y.length (cl3 y)
  ne : ∀ g, u.ownBlock = some g → v.ownBlock ≠ some g
theorem Two.fresh {wr w3 : World} {base : Nat} {u v : Value} {x y : List It} (h : Two wr base u v x y) (hk : Kept [] wr w3) : Two w3 base u v x y := ⟨own_frame h.a hk (by simp), own_frame h.b hk (by simp), h.ne⟩
theorem Two.pushA {wr w8 : World} {base : Nat} {u v u2 : Value} {x y : List It} {z : It} {o : Obj} (h : Two wr base u v x y) (ho : w8.ownsRow base 56 3 u2 (x.length + 1) (cl3 x ++ ci3 z)) (hg : (wr.alloc o).grownBy w8 u.ownBlock) (hat : u2.ownBlock = u.ownBlock ∨ u2.ownBlock = some (wr.alloc o).heap.size) : Two w8 base u2 v (x ++ [z]) y := by
  refine ⟨own_push3 ho, own_row (World.ownsRow.alloc h.b o) hg (fun g hg hc => h.ne g hc hg), fun g hg hc => ?_⟩
  rcases hat with e | e
  · rw [e] at hg; exact h.ne g hg hc
  · rw [e] at hg
    have h1 := (h.b.lt g hc).2
    simp at hg
    omega
theorem Two.pushB {wr w8 : World} {base : Nat} {u v v2 : Value} {x y : List It} {z : It} {o : Obj} (h : Two wr base u v x y) (ho : w8.ownsRow base 56 3 v2 (y.length + 1) (cl3 y ++ ci3 z)) (hg : (wr.alloc o).grownBy w8 v.ownBlock) (hat : v2.ownBlock = v.ownBlock ∨ v2.ownBlock = some (wr.alloc o).heap.size) : Two w8 base u v2 x (y ++ [z]) := by
  refine ⟨own_row (World.ownsRow.alloc h.a o) hg (fun g hg hc => h.ne g hg hc), own_push3 ho, fun g hg hc => ?_⟩
  rcases hat with e | e
  · rw [e] at hc; exact h.ne g hg hc
  · rw [e] at hc
    have h1 := (h.a.lt g hg).2
    simp at hc
    omega
/-- What lies in memory behind the tick. -/
structure IkT (w : World) (a : Option Addr) (l : List Int) : Prop where
  cell : Ik w a l
  blk : l ≠ [] → ∃ g off xs, a = some ⟨g, off, none⟩ ∧ Blk w g xs 31
theorem ikt_own {w : World} {base : Nat} {v : Value} {n : Nat} {l : List Int} (h : w.ownsRow base 31 1 v n (ik1 l)) : l.length = n ∧ ∃ a cap, v = .slice a n cap ∧ n ≤ cap ∧ IkT w a l := by
  obtain ⟨hl, a, cap, rfl, hc, hi, _⟩ := ik_form h
  refine ⟨hl, a, cap, rfl, hc, hi, fun hne => ?_⟩
  rcases h.2 with ⟨_, h0⟩ | ⟨g, cap2, cur, he, _, hg, _⟩
  · exact absurd (List.eq_nil_of_length_eq_zero (by omega)) hne
  · simp only [Value.slice.injEq] at he
    exact ⟨g, 0, cur.toList, he.1, hg⟩
def TkP (w : World) (room asked full : Int) (t : Int) (l : List It) (e : Ending) (w' : World) : Prop :=
  ∃ a n c b d, e = .returned (.tuple #[.agg #[.int .i64 room, .int .i64 (asked + (toldN l).length), .int .i64 full, .slice a n c], .slice b (toldN l).length d]) ∧ (putsN t (toldN l) (restN l)).length = n ∧ n ≤ c ∧ L3 w' 56 a (putsN t (toldN l) (restN l)) ∧ (toldN l).length ≤ d ∧ IkT w' b ((toldN l).map (·.1)) ∧ Kept [] w w'
theorem told_rest (l : List It) : (toldN l).length + (restN l).length = l.length := by
  unfold toldN restN
  generalize hm : l.map agoN = m
  have hl : l.length = m.length := by rw [← hm]; simp
  rw [hl]
  clear hm hl
  induction m with
  | nil => rfl
  | cons y m ih => by_cases h : y.2.1 ≤ 0 <;> simp [h] <;> omega
theorem told_in {l : List It} (h : ∀ x, x ∈ l → 0 ≤ x.2.2 ∧ x.2.2 ≤ 5) : ∀ x, x ∈ toldN l → 0 ≤ x.2.2 ∧ x.2.2 ≤ 5 := fun x hx => by
  have h1 := (List.mem_filter.1 hx).1
  rw [List.mem_map] at h1
  obtain ⟨y, hy, rfl⟩ := h1
  exact h y hy
theorem put_len (x : It) (l : List It) : (putN x l).length = l.length + 1 := by
  induction l with
  | nil => rfl
  | cons y l ih => unfold putN; split <;> simp [ih]
theorem puts_step (t : Int) (td rs : List It) (i : Nat) (hi : i < td.length) : putsN t (td.take (i + 1)) rs = putN (againN t (td.getD i it0)) (putsN t (td.take i) rs) := by
  unfold putsN
  rw [List.take_add_one, List.getElem?_eq_getElem hi, List.foldl_append]
  have e : td.getD i it0 = td[i] := by simp [List.getD, hi]
  rw [e]
  rfl
theorem puts_len (t : Int) (l r : List It) : (putsN t l r).length = r.length + l.length := by
  induction l generalizing r with
  | nil => rfl
  | cons x l ih => show (putsN t l (putN _ r)).length = _; rw [ih, put_len]; simp; omega
theorem fst_step (td : List It) (i : Nat) (hi : i < td.length) : (td.take (i + 1)).map (·.1) = (td.take i).map (·.1) ++ [(td.getD i it0).1] := by
  rw [List.take_add_one, List.getElem?_eq_getElem hi, List.map_append]
  have e : td.getD i it0 = td[i] := by simp [List.getD, hi]
  rw [e]
  rfl
theorem infoU2 : (Try.prog.info? 31).map (fun i => (i.zero, i.size, i.bytes)) = some (some (.int .u32 0), 1, 4) := by kernel_rfl
theorem dbl (H : Int) (j : Nat) : H * 2 ^ j * 2 = H * 2 ^ (j + 1) := by rw [Int.pow_succ, Int.mul_assoc]
theorem dbl_in {H : Int} {j : Nat} (h1 : 1 ≤ H) (h2 : H ≤ 4096) (hj : j ≤ 5) : 0 ≤ H * 2 ^ j ∧ H * 2 ^ j ≤ 131072 := by
  have ht : j = 0 ∨ j = 1 ∨ j = 2 ∨ j = 3 ∨ j = 4 ∨ j = 5 := by omega
  rcases ht with rfl | rfl | rfl | rfl | rfl | rfl <;> simp <;> omega
theorem push_ik {w : World} {base : Nat} {e : TypeId} {v : Value} {out : List Int} {x : Int} (h : w.ownsRow base e 1 v (out.length + 1) (ik1 out ++ [.int .u32 x])) : w.ownsRow base e 1 v (out ++ [x]).length (ik1 (out ++ [x])) := by
  rw [ik1_snoc, List.length_append]
  exact h
/-- A row's block is none of another type. -/
theorem own_noT {w : World} {base size : Nat} {e T : TypeId} {v : Value} {n : Nat} {xs : List Value} (h : w.ownsRow base e size v n xs) (hT : e ≠ T) : ∀ b, b ∈ v.ownBlock.toList → ∀ ys, ¬ Blk w b ys T := fun b hb ys hB => by
  rcases h.2 with ⟨rfl, _⟩ | ⟨g', cap, cur, rfl, _, hg', _⟩
  · simp [Value.ownBlock] at hb
  · simp [Value.ownBlock] at hb
    subst hb
    exact blk_neT (show Blk w b cur.toList e from hg') hB hT
theorem wp_one {P : Program} {c : Code} {Q : Exit → Act → World → Prop} {a : Act} {w : World} {AF : Act} {WF : World} (h : c.wp P (fun e a' w' => e = .normal ∧ a' = AF ∧ w' = WF) a w) (hq : Q .normal AF WF) : c.wp P Q a w :=
  Code.wp_mono (by rintro e a' w' ⟨rfl, rfl, rfl⟩; exact hq) h
/-- The second loop's state. -/
structure Snd (w wq : World) (room asked full t : Int) (v : Value) (ta : Option Addr) (td rs : List It) (i : Nat) (ra : Option Addr) (rn rc : Nat) (u : Value) : Prop where
  le : i ≤ td.length
  len : (putsN t (td.take i) rs).length = rn
  cap : rn ≤ rc
  row : L3 wq 56 ra (putsN t (td.take i) rs)
  out : wq.ownsRow (w.heap.size + 2) 31 1 u i (ik1 ((td.take i).map (·.1)))
  told : L3 wq 56 ta td
  box : Bx2 w wq 27 (ls4 room (asked + i) full v) (ls4 0 0 0 (.slice none 0 0))
set_option maxRecDepth 100000 in
set_option maxHeartbeats 25600000 in
theorem rtick19_any (a : Option Addr) (n c : Nat) (l : List It) (room asked full t : Int) (w : World) (hl : L3 w 56 a l) (hn : l.length = n) (h100 : n ≤ 1000) (ha0 : 0 ≤ asked) (ha1 : asked ≤ 900000000) (hx1 : ∀ x, x ∈ l → (0 ≤ x.2.1 ∧ x.2.1 ≤ 2199023255552) ∧ (0 ≤ x.2.2 ∧ x.2.2 ≤ 5)) :
    Calls Try.prog 19 #[.agg #[.int .i64 room, .int .i64 asked, .int .i64 full, .slice a n c], .int .i64 t] w (TkP w room asked full t l) := by
  have hz := zeroRList
  have P0 := hx (show Bx2 w ((w.alloc (.cells #[.int .i64 room, .int .i64 asked, .int .i64 full, .slice a n c] 27)).alloc (.cells #[.int .i64 0, .int .i64 0, .int .i64 0, .slice none 0 0] 27)) 27 (ls4 room asked full (.slice a n c)) (ls4 0 0 0 (.slice none 0 0)) from Bx2.new w 27 (ls4 room asked full (.slice a n c)) (ls4 0 0 0 (.slice none 0 0)))
  have HL := hx hl
  have HN := hx hn
  have HA := hx (And.intro ha0 ha1)
  have HX := hx hx1
  generalize hPP : TkP w room asked full t l = PP at *
  have HPP := hx hPP
  clear hl hn hPP ha0 ha1 hx1
  go_enter Try.func19, Try.ntmps19
  go_upto_region 1 with fail
  generalize (w.alloc (.cells #[.int .i64 room, .int .i64 asked, .int .i64 full, .slice a n c] 27)).alloc (.cells #[.int .i64 0, .int .i64 0, .int .i64 0, .slice none 0 0] 27) = W0 at *
  clear hz
  go_upto_region 4 with fail
  go_loopw [6, 7, 8] (fun tv rv iv wr => ∃ (i : Nat) (told rest : List It) (u v : Value), i ≤ n ∧ iv = .int .i64 i ∧ u = tv ∧ v = rv ∧ told = toldN (l.take i) ∧ rest = restN (l.take i) ∧ Two wr (w.heap.size + 2) u v told rest ∧ Bx2 w wr 27 (ls4 room asked full (.slice a n c)) (ls4 0 0 0 (.slice none 0 0))) (fun _ _ iv _ => n - (intOf iv).toNat)
  case atStart => exact ⟨0, [], [], _, _, by omega, rfl, rfl, rfl, by simp [toldN], by simp [restN], ⟨World.ownsRow_nil _ _ _ _, World.ownsRow_nil _ _ _ _, by simp [Value.ownBlock]⟩, P0.out⟩
  case round =>
    clear P0
    obtain ⟨i, told, rest, u, v, hi, rfl, hu, hv, htd, hrs, htw, hp⟩ := hrel
    subst hu
    subst hv
    have HTD := hx htd
    have HRS := hx hrs
    have HTW := hx htw
    have HP := hx hp
    have HLN := hx (show told.length ≤ 1000 ∧ rest.length ≤ 1000 by
      have h1 := told_len (l.take i)
      have h2 := rest_len (l.take i)
      rw [← htd, List.length_take] at h1
      rw [← hrs, List.length_take] at h2
      omega)
    clear htd hrs htw hp
    have c3 := HP.out.b0.cell (i := 3) rfl
    by_cases hlt : i < n
    · have hli : (i : Int) < (n : Int) := by omega
      have hil : i < l.length := by have := HN.out; omega
      obtain ⟨g, off, rfl, e1, e2, e3⟩ := (HL.out.kept HP.out.k).cell i hil
      have HS := hx (told_step l i hil)
      have HY := hx (HX.out (l.getD i it0) (by rw [← List.getElem_eq_getD (h := hil)]; exact List.getElem_mem hil))
      generalize l.getD i it0 = y at *
      obtain ⟨y1, y2, y3⟩ := y
      simp only at e1 e2 e3 HS HY
      have hz := zeroItem
      have hwy : IntKind.i64.wrap (y2 - 1) = y2 - 1 := by have h := HY.out; rw [IntKind.wrap_i64]; omega
      have KN := hx ((Kept.refl [] wr).alloc (.cells #[.int .u32 0, .int .i64 0, .int .i64 0] 56))
      have BN := hx (Blk.new wr [.int .u32 0, .int .i64 0, .int .i64 0] 56)
      go_upto_region 7 with (refine store_blk rfl 56 (.tmp 9) (.tmp 25) rfl wr.heap.size rfl 56 _ (ci3 (y1, y2, y3)) rfl BN.out rfl infoItem3 (by intro x hx; simp [ci3] at hx; rcases hx with rfl | rfl | rfl <;> rfl) ?_; intro w3 hb3 hk3)
      have K3 := KN.out.trans hk3 (fun _ h => h) (fun x h => by simp at h; subst h; exact .inr (Nat.le_refl _))
      have B4 := hx (hb3.set 1 (.int .i64 (y2 - 1)))
      have K4 := hx (K3.setCell (p := ⟨wr.heap.size, 1, none⟩) (.inr (Nat.le_refl _)) (.int .i64 (y2 - 1)))
      have d1 := hb3.cell (i := 1) rfl
      have df := hb3.free
      clear hz hb3 hk3 K3 KN BN
      go_upto_region 8 with fail
      clear d1 df hwy c3 e1 e2 e3
      generalize w3.setCell ⟨wr.heap.size, 1, none⟩ (.int .i64 (y2 - 1)) = w4 at *
      have T4 := hx (HTW.out.fresh K4.out)
      have P4 := hx (HP.out.kept K4.out)
      have d0 := B4.out.cell (i := 0) rfl
      have d1 := B4.out.cell (i := 1) rfl
      have d2 := B4.out.cell (i := 2) rfl
      clear HTW HP K4 B4
      by_cases hy : y2 - 1 ≤ 0
      · have HT2 := hx (show toldN (l.take (i + 1)) = told ++ [(y1, y2 - 1, y3)] by rw [HS.out.1, if_pos hy, ← HTD.out]; rfl)
        have HR2 := hx (show restN (l.take (i + 1)) = rest by rw [HS.out.2, if_pos hy, List.append_nil, ← HRS.out])
        have hyd := decide_eq_true hy
        clear HS hy HY
        generalize y2 - 1 = z2 at *
        go_wp2_with (at_builtin; refine wpList_app_at rfl (.tmp 33) (.tmp 35) 25 rfl (w.heap.size + 2) 56 (.agg #[.int .u32 0, .int .i64 0, .int .i64 0]) 3 24 infoItem Try.underlying25 rfl (by omega) u told.length (cl3 told) rfl (World.ownsRow.alloc T4.out.a _) ⟨_, 0, none⟩ 1 1 (ci3 (y1, z2, y3)) rfl rfl (news2a (Blk.new _ (ci3 (y1, z2, y3)) 56)) (one_ci3 _) (by have := HLN.out; simp [maxLen]; omega) (by have := HLN.out; simp; omega) (P4.out.alloc _).size ?_; intro u2 w8 ho8 hg8 hat8; have T8 := hx (T4.out.pushA ho8 hg8 hat8); have P8 := hx ((P4.out.alloc _).grown hg8 (fun q hq => (T4.out.a.lt q hq).1)); clear ho8 hg8 hat8)
        go_roundw
        case rel => exact ⟨i + 1, told ++ [(y1, z2, y3)], rest, u2, v, by omega, by go_num, rfl, rfl, HT2.out.symm, HR2.out.symm, T8.out, P8.out⟩
        case measure => simp [intOf] <;> omega
      · have HT2 := hx (show toldN (l.take (i + 1)) = told by rw [HS.out.1, if_neg hy, List.append_nil, ← HTD.out])
        have HR2 := hx (show restN (l.take (i + 1)) = rest ++ [(y1, y2 - 1, y3)] by rw [HS.out.2, if_neg hy, ← HRS.out]; rfl)
        have hyd := decide_eq_false hy
        clear HS hy HY
        generalize y2 - 1 = z2 at *
        go_wp2_with (at_builtin; refine wpList_app_at rfl (.tmp 37) (.tmp 39) 25 rfl (w.heap.size + 2) 56 (.agg #[.int .u32 0, .int .i64 0, .int .i64 0]) 3 24 infoItem Try.underlying25 rfl (by omega) v rest.length (cl3 rest) rfl (World.ownsRow.alloc T4.out.b _) ⟨_, 0, none⟩ 1 1 (ci3 (y1, z2, y3)) rfl rfl (news2a (Blk.new _ (ci3 (y1, z2, y3)) 56)) (one_ci3 _) (by have := HLN.out; simp [maxLen]; omega) (by have := HLN.out; simp; omega) (P4.out.alloc _).size ?_; intro v2 w8 ho8 hg8 hat8; have T8 := hx (T4.out.pushB ho8 hg8 hat8); have P8 := hx ((P4.out.alloc _).grown hg8 (fun q hq => (T4.out.b.lt q hq).1)); clear ho8 hg8 hat8)
        go_roundw
        case rel => exact ⟨i + 1, told, rest ++ [(y1, z2, y3)], u, v2, by omega, by go_num, rfl, rfl, HT2.out.symm, HR2.out.symm, T8.out, P8.out⟩
        case measure => simp [intOf] <;> omega
    · obtain rfl : i = n := by omega
      have HTE := hx (show told = toldN l by rw [HTD.out, ← HN.out, List.take_length])
      have HRE := hx (show rest = restN l by rw [HRS.out, ← HN.out, List.take_length])
      obtain ⟨_, ta, tc, rfl, htc, hta⟩ := l3_own HTW.out.a
      obtain ⟨hrl, ra, rc, rfl, hrc, hra⟩ := l3_own HTW.out.b
      have HTC := hx htc
      have HLS := hx (show told.length + rest.length ≤ 1000 by have h1 := told_rest l; have h2 := HN.out; rw [HTE.out, HRE.out]; omega)
      have HTI := hx (show ∀ x, x ∈ told → 0 ≤ x.2.2 ∧ x.2.2 ≤ 5 by rw [HTE.out]; exact told_in (fun x hx => (HX.out x hx).2))
      have HS0 := hx (show Snd w wr room asked full t (.slice a i c) ta told rest 0 ra rest.length rc (.slice none 0 0) from ⟨Nat.zero_le _, rfl, hrc, hra, World.ownsRow_nil _ _ _ _, hta, by simpa using HP.out⟩)
      have hm : told.length ≤ 1000 := HLN.out.1
      clear HTD HRS HTW HP HLN htc hta hrl hrc hra HX
      have hlt3 : ¬ (i : Int) < (i : Int) := by omega
      go_upto_region 13 with fail
      clear c3 hlt3
      go_loopw [7, 10, 11] (fun rv ov iv wq => ∃ (j : Nat) (ra : Option Addr) (rn rc : Nat) (u : Value), iv = .int .i64 j ∧ rv = .slice ra rn rc ∧ u = ov ∧ Snd w wq room asked full t (.slice a i c) ta told rest j ra rn rc u) (fun _ _ iv _ => told.length - (intOf iv).toNat)
      case atStart => exact ⟨0, ra, rest.length, rc, _, rfl, rfl, rfl, HS0.out⟩
      case round =>
        clear HS0
        obtain ⟨j, ra, rn, rc, u, rfl, rfl, hu, hsn⟩ := hrel
        subst hu
        have HSN := hx hsn
        clear hsn
        by_cases hlt2 : j < told.length
        · have hjt : (j : Int) < (told.length : Int) := by omega
          obtain ⟨g, off, rfl, e1, e2, e3⟩ := HSN.out.told.cell j hlt2
          have HYT := hx (HTI.out (told.getD j it0) (by rw [← List.getElem_eq_getD (h := hlt2)]; exact List.getElem_mem hlt2))
          have HPS := hx (puts_step t told rest j hlt2)
          have HFS := hx (fst_step told j hlt2)
          generalize told.getD j it0 = y at *
          obtain ⟨y1, y2, y3⟩ := y
          simp only at e1 e2 e3 HYT HFS
          have hz := zeroItem
          have KN := hx ((Kept.refl [] wr).alloc (.cells #[.int .u32 0, .int .i64 0, .int .i64 0] 56))
          have BN := hx (Blk.new wr [.int .u32 0, .int .i64 0, .int .i64 0] 56)
          go_upto_region 16 with (refine store_blk rfl 56 (.tmp 12) (.tmp 50) rfl wr.heap.size rfl 56 _ (ci3 (y1, y2, y3)) rfl BN.out rfl infoItem3 (by intro x hx; simp [ci3] at hx; rcases hx with rfl | rfl | rfl <;> rfl) ?_; intro w3 hb3 hk3)
          have HK3 := hx (KN.out.trans hk3 (fun _ h => h) (fun x h => by simp at h; subst h; exact .inr (Nat.le_refl _)))
          have HB3 := hx hb3
          have d0 := hb3.cell (i := 0) rfl
          have HO3 := hx (own_frame HSN.out.out HK3.out (by simp))
          have HP3 := hx (HSN.out.box.kept HK3.out)
          have HJ1 := hx (show j ≤ 1000 by omega)
          clear hz KN BN hb3 hk3 e1 e2 e3
          go_upto_region 17 with (at_builtin; refine wpList_app rfl (.tmp 51) (.tmp 54) 37 rfl (w.heap.size + 2) 31 (.int .u32 0) 1 4 infoU2 Try.underlying37 rfl (by omega) u j (ik1 ((told.take j).map (·.1))) rfl (World.ownsRow.alloc HO3.out _) (some ⟨_, 0, none⟩) 1 1 [.int .u32 y1] rfl rfl (by simp) (by omega) (news2 (Blk.new _ [.int .u32 y1] 31)) (by intro v hv; simp at hv; subst hv; rfl) (by have := HJ1.out; simp [maxLen]; omega) (by have := HJ1.out; omega) (HP3.out.alloc _).size ?_; intro u2 w4 ho4 hg4; have HO4 := hx ho4; have HP4 := hx ((HP3.out.alloc _).grown hg4 (fun q hq => (HO3.out.lt q hq).1)); have HB4 := hx (grown_blk hg4 (HB3.out.alloc _) (fun e => by have := (HSN.out.out.lt _ e.symm).2; omega)); have HKU := hx (show Kept u.ownBlock.toList wr w4 from ((HK3.out.alloc _).mono (cs := u.ownBlock.toList) (by simp)).grown hg4 (fun k e => .inl (by simp [e]))); clear ho4 hg4)
          have HGW := hx (show w.heap.size + 2 ≤ wr.heap.size from HSN.out.box.size)
          have HQ := hx (fun (wz : World) (hk : Kept [wr.heap.size] w4 wz) => show Bx2 w wz 27 (ls4 room (asked + j) full (.slice a i c)) (ls4 0 0 0 (.slice none 0 0)) ∧ L3 wz 56 ra (putsN t (told.take j) rest) ∧ L3 wz 56 (some ⟨g, off, none⟩) told ∧ wz.ownsRow (w.heap.size + 2) 31 1 u2 (j + 1) (ik1 ((told.take j).map (·.1)) ++ [.int .u32 y1]) from by
            have hz := HGW.out
            have hk2 := HKU.out.trans hk (fun _ h => h) (fun x hx => by simp at hx; subst hx; exact .inr (Nat.le_refl _))
            refine ⟨⟨hk.blk HP4.out.b0 (by simp; omega), hk.blk HP4.out.b1 (by simp; omega), HP4.out.k.trans hk (fun _ h => h) (fun x hx => by simp at hx; subst hx; exact .inr (by omega))⟩, HSN.out.row.frame hk2 (own_noT HSN.out.out (by decide)), HSN.out.told.frame hk2 (own_noT HSN.out.out (by decide)), own_frame HO4.out hk (fun q hq hm => ?_)⟩
            simp at hm
            subst hm
            exact own_noT HO4.out (by decide) _ (by simp [hq]) _ HB4.out)
          have HL4 := hx (And.intro HSN.out.len HSN.out.cap)
          have HJL := hx (show (putsN t (told.take j) rest).length ≤ 1000 by
            rw [puts_len]
            have h1 := HLS.out
            have h2 := List.length_take_le j told
            omega)
          clear d0 HK3 HO3 HP3 HB3 HKU HSN HP4 HO4
          generalize wr.heap.size = gb at *
          have d0 := HB4.out.cell (i := 0) rfl
          have d2 := HB4.out.cell (i := 2) rfl
          have df := HB4.out.free
          have hwt : IntKind.i64.wrap (y3 + 1) = y3 + 1 := by have h := HYT.out; rw [IntKind.wrap_i64]; omega
          obtain ⟨T, hT⟩ : ∃ T : Nat, (T : Int) = min (y3 + 1) 5 := ⟨(min (y3 + 1) 5).toNat, by have h := HYT.out; omega⟩
          have hmn := hT.symm
          have HT := hx (show min (y3 + 1) 5 = (T : Int) ∧ T ≤ 5 from ⟨hT.symm, by omega⟩)
          clear hT
          go_upto_region 18 with fail
          have B5 := hx (HB4.out.set 2 (.int .i64 (T : Int)))
          have K5 := hx ((Kept.refl [gb] w4).setCell (p := ⟨gb, 2, none⟩) (.inl (by simp)) (.int .i64 (T : Int)))
          clear d0 d2 df hwt hmn HB4
          generalize w4.setCell ⟨gb, 2, none⟩ (.int .i64 (T : Int)) = w5 at *
          have HC := hx (fun w => rheld_any t w)
          have HHI := hx (heldN_in t)
          have HGA := hx (show againN t (y1, y2, y3) = (y1, max (heldN t) (min (heldN t * 2 ^ T) 100), (T : Int)) by simp only [againN, gapN, HT.out.1, Int.toNat_natCast])
          generalize heldN t = H at *
          have d1 := B5.out.cell (i := 1) rfl
          have df := B5.out.free
          go_upto_region 19 with (go_at_call 30; refine (HC.out _).mono ?_; rintro e w8 ⟨rfl, rfl⟩)
          have B6 := hx (B5.out.set 1 (.int .i64 H))
          have K6 := hx (K5.out.setCell (p := ⟨gb, 1, none⟩) (.inl (by simp)) (.int .i64 H))
          clear d1 df B5 K5
          generalize w5.setCell ⟨gb, 1, none⟩ (.int .i64 H) = w6 at *
          go_wp2_with fail
          have hT5 : T ≤ 5 := HT.out.2
          go_loopw [13] (fun kv wx => ∃ (z : Nat), z ≤ T ∧ kv = .int .i64 z ∧ Blk wx gb [.int .u32 y1, .int .i64 (H * 2 ^ z), .int .i64 (T : Int)] 56 ∧ Kept [gb] w4 wx) (fun kv _ => T - (intOf kv).toNat)
          case atStart => exact ⟨0, Nat.zero_le _, rfl, by rw [Int.pow_zero, Int.mul_one]; exact B6.out, K6.out⟩
          case round =>
            clear B6 K6
            obtain ⟨z, hz, rfl, hb, hk⟩ := hrel
            have HB := hx hb
            have HK := hx hk
            have d1 := hb.cell (i := 1) rfl
            have d2 := hb.cell (i := 2) rfl
            have df := hb.free
            clear hb hk
            by_cases hzt : z < T
            · have hzi : (z : Int) < (T : Int) := by omega
              have hwd : IntKind.i64.wrap (H * 2 ^ z * 2) = H * 2 ^ z * 2 := by
                have h := dbl_in HHI.out.1 HHI.out.2 (j := z) (by omega)
                rw [IntKind.wrap_i64]; omega
              have HBN := hx (show Blk (wr.setCell ⟨gb, 1, none⟩ (.int .i64 (H * 2 ^ z * 2))) gb [.int .u32 y1, .int .i64 (H * 2 ^ (z + 1)), .int .i64 (T : Int)] 56 by rw [← dbl]; exact HB.out.set 1 _)
              have HKN := hx (HK.out.setCell (p := ⟨gb, 1, none⟩) (.inl (by simp)) (.int .i64 (H * 2 ^ z * 2)))
              clear HB HK
              generalize H * 2 ^ z = D at *
              go_wp2
              go_roundw
              case rel => exact ⟨z + 1, by omega, by go_num, HBN.out, HKN.out⟩
              case measure => simp [intOf] <;> omega
            · obtain rfl : z = T := by omega
              have hHH := HHI.out
              obtain ⟨hbx, hlr, hlt, hor⟩ := HQ.out _ (HK.out.drew)
              have HBX := hx hbx
              clear hbx hlr hlt hor hzt hz
              have hlz : ¬ (z : Int) < (z : Int) := by omega
              generalize H * 2 ^ z = D at *
              obtain ⟨G, hG⟩ : ∃ G, max H (min D 100) = G := ⟨_, rfl⟩
              have HGG := hx hG
              rw [hG] at HGA
              have HBD := hx HB.out.drew
              go_upto_region 23 with fail
              go_cut [79] from 74 to 80 (fun _ wx => wx = (wr.setCell ⟨gb, 1, none⟩ (.int .i64 G)).drew)
              case first =>
                go_region_with (first | (go_at_call 30; refine (HC.out _).mono ?_; rintro e w8 ⟨rfl, rfl⟩))
                all_goals
                  go_wp2_with fail
                  go_meet
                  rfl
              case rest =>
                subst hcut
                have B7 := hx (show Blk (wr.setCell ⟨gb, 1, none⟩ (.int .i64 G)).drew gb [.int .u32 y1, .int .i64 G, .int .i64 (z : Int)] 56 from (HB.out.set 1 (.int .i64 G)).drew)
                have HQ7 := hx (HQ.out _ (HK.out.setCell (p := ⟨gb, 1, none⟩) (.inl (by simp)) (.int .i64 G)).drew)
                clear d1 d2 df HB HK HBD HQ hG hlz
                generalize (wr.setCell ⟨gb, 1, none⟩ (.int .i64 G)).drew = w7 at *
                have HPU := hx (rput_any ra rn rc (putsN t (told.take j) rest) y1 G (z : Int) w7 HQ7.out.2.1 HL4.out.1 (by have h1 := HL4.out.1; have h2 := HJL.out; omega))
                have d0 := B7.out.cell (i := 0) rfl
                have d1 := B7.out.cell (i := 1) rfl
                have d2 := B7.out.cell (i := 2) rfl
                go_upto_region 25 with (go_at_call 29; refine HPU.out.mono ?_; rintro e w8 ⟨a8, n8, c8, rfl, hn8, hc8, hl8, hk8⟩; have H8 := hx (And.intro hn8 (And.intro hc8 (And.intro hl8 hk8))); clear hn8 hc8 hl8 hk8)
                have P8 := hx (HQ7.out.1.kept H8.out.2.2.2)
                have b1 := P8.out.b0.cell (i := 1) rfl
                have bf := P8.out.b0.free
                have hwa : IntKind.i64.wrap (asked + j + 1) = asked + j + 1 := by have h := HA.out; have h2 := HJ1.out; rw [IntKind.wrap_i64]; omega
                have HWB := hx ((Kept.refl [w.heap.size] w8).setCell (p := ⟨w.heap.size, 1, none⟩) (.inl (by simp)) (.int .i64 (asked + j + 1)))
                have HNB := hx (show ∀ b, b ∈ [w.heap.size] → ∀ xs, ¬ Blk w8 b xs 56 from fun b hb xs hB => by simp at hb; subst hb; exact blk_neT P8.out.b0 hB (by decide))
                have hcj : asked + ((j + 1 : Nat) : Int) = asked + j + 1 := by omega
                have HE := hx (show Snd w (w8.setCell ⟨w.heap.size, 1, none⟩ (.int .i64 (asked + j + 1))) room asked full t (.slice a i c) (some ⟨g, off, none⟩) told rest (j + 1) a8 n8 c8 u2 from
                  ⟨hlt2, by rw [HPS.out, HGA.out]; exact H8.out.1, H8.out.2.1, by rw [HPS.out, HGA.out]; exact H8.out.2.2.1.frame HWB.out HNB.out, by rw [HFS.out, ik1_snoc]; exact own_set (own_frame HQ7.out.2.2.2 H8.out.2.2.2 (by simp)) HWB.out (by simp), (HQ7.out.2.2.1.kept H8.out.2.2.2).frame HWB.out HNB.out, by rw [hcj]; exact ⟨P8.out.b0.set 1 _, P8.out.b1.set_ne (a := ⟨w.heap.size, 1, none⟩) (by simp) _, P8.out.k.setCell (p := ⟨w.heap.size, 1, none⟩) (.inr (by simp)) _⟩⟩)
                clear d0 d1 d2 HPU B7 HQ7 P8 HWB HNB hcj
                go_wp2
                go_roundw
                case rel => exact ⟨j + 1, a8, n8, c8, u2, by go_num, rfl, rfl, HE.out⟩
                case measure => simp [intOf] <;> omega
        · have hle := HSN.out.le
          have hje : j = told.length := by omega
          subst hje
          obtain ⟨hol, ob, od, rfl, hod, hik⟩ := ikt_own HSN.out.out
          have hlen := HSN.out.len
          have hcap := HSN.out.cap
          rw [List.take_length] at hol hik hlen
          have HOD := hx (And.intro hlen (And.intro hcap hod))
          have HLT3 := hx (show ¬ (told.length : Int) < (told.length : Int) by omega)
          have P1 := HSN.out.box
          have bf := P1.b0.free
          have c3 := P1.b0.cell (i := 3) rfl
          have HROW := hx HSN.out.row
          have B0 := hx (P1.b0.set 3 (.slice ra rn rc))
          have B1 := hx (P1.b1.set_ne (a := ⟨w.heap.size, 3, none⟩) (by simp) (.slice ra rn rc))
          have K1 := hx (P1.k.setCell (p := ⟨w.heap.size, 3, none⟩) (.inr (by simp)) (.slice ra rn rc))
          have HWB := hx ((Kept.refl [w.heap.size] wr).setCell (p := ⟨w.heap.size, 3, none⟩) (.inl (by simp)) (.slice ra rn rc))
          have HNB := hx (show ∀ (T : TypeId), 27 ≠ T → ∀ b, b ∈ [w.heap.size] → ∀ xs, ¬ Blk wr b xs T from fun T hT b hb xs hB => by simp at hb; subst hb; exact blk_neT P1.b0 hB hT)
          have HOUT := hx HSN.out.out
          have hlt4 := HLT3.out
          clear hlen hcap hod hik P1 HSN hle hol
          have L1 := hx (HROW.out.frame HWB.out (HNB.out _ (by decide)))
          have O1 := hx (own_set HOUT.out HWB.out (by simp))
          clear HROW HOUT HWB HNB
          go_wp2_with (first
            | refine load_blk rfl 27 (.tmp 2) rfl w.heap.size rfl 27 _ _ B0.out Try.underlying27 rfl infoList ?_
            | (refine store_blk rfl 27 (.tmp 4) (.tmp 90) rfl (w.heap.size + 1) rfl 27 _ (ls4 room (asked + (told.length : Nat)) full (.slice ra rn rc)) rfl B1.out rfl infoList (by intro x hx; simp at hx; rcases hx with rfl | rfl | rfl | rfl <;> rfl) ?_
               intro w9 hb9 hk9))
          refine bodyPost_ret (ret_blk2 rfl _ (w.heap.size + 1) _ _ _ _ rfl rfl hb9 Try.underlying27 rfl infoList) rfl ?_
          rw [← HPP.out, TkP, ← HTE.out, ← HRE.out]
          have h9 := own_set O1.out hk9 (by simp)
          obtain ⟨_, ob2, od2, he, hod2, hik2⟩ := ikt_own h9
          simp only [Value.slice.injEq] at he
          obtain ⟨rfl, _, rfl⟩ := he
          rw [List.take_length] at hik2
          have hl1 := L1.out
          rw [List.take_length] at hl1
          exact ⟨ra, rn, rc, ob, od, rfl, HOD.out.1, HOD.out.2.1, hl1.frame hk9 (fun b hb xs hB => by simp at hb; subst hb; exact blk_neT B1.out hB (by decide)), hod2, hik2, K1.out.trans hk9 (fun _ h => h) (fun x h => by simp at h; right; omega)⟩
end Go.Proofs.Yteobkcmfpmolmaa
