import Derived.Test.YthpdoekeooedfaaPrioS
import Derived.Deep.AppendLies
import Derived.Deep.DeepMust
namespace Go.Proofs.Ythpdoekeooedfaa
open Go Go.RowKit
/-- The two boxes of Push. -/
structure PuW (w wr : World) (room : Int) (lv : Value) : Prop where
  b0 : Blk wr w.heap.size [.int .i64 room, lv] 41
  b1 : Blk wr (w.heap.size + 1) [.int .i64 0, .slice none 0 0] 41
  k : Kept [] w wr
theorem PuW.size {w wr : World} {room : Int} {lv : Value} (h : PuW w wr room lv) : w.heap.size + 2 ≤ wr.heap.size := h.b1.lt
theorem PuW.alloc {w wr : World} {room : Int} {lv : Value} (h : PuW w wr room lv) (o : Obj) : PuW w (wr.alloc o) room lv := ⟨h.b0.alloc o, h.b1.alloc o, h.k.alloc o⟩
theorem PuW.grown {w wr w2 : World} {room : Int} {lv : Value} {row : Option Nat} (h : PuW w wr room lv) (hg : wr.grownBy w2 row) (hr : ∀ k, row = some k → w.heap.size + 2 ≤ k) : PuW w w2 room lv :=
  ⟨grown_blk hg h.b0 (fun e => by have := hr _ e.symm; omega), grown_blk hg h.b1 (fun e => by have := hr _ e.symm; omega), h.k.grown hg (fun k hk => .inr (by have := hr k hk; omega))⟩
theorem own_push2 {w : World} {base : Nat} {e : TypeId} {v : Value} {out : List (Int × Int)} {x : Int × Int} (h : w.ownsRow base e 2 v (out.length + 1) (cl2 out ++ ci2 x)) : w.ownsRow base e 2 v (out ++ [x]).length (cl2 (out ++ [x])) := by
  rw [cl2_push, List.length_append]
  exact h
theorem zeroQ (w : World) : (zeroValue 41).run Try.prog w = .ok (.agg #[.int .i64 0, .slice none 0 0]) w := by kernel_rfl
theorem ls_form' {w : World} {base : Nat} {e : TypeId} {a : Option Addr} {n c : Nat} {l : List (Int × Int)} (h : w.ownsRow base e 2 (.slice a n c) n (cl2 l)) : Ls w a l := by
  obtain ⟨_, a', c', he, _, hL⟩ := ls_form h
  simp only [Value.slice.injEq, true_and] at he
  rw [he.1]
  exact hL
theorem ls_formT {w : World} {base : Nat} {a : Option Addr} {n c : Nat} {l : List (Int × Int)} (h : w.ownsRow base 49 2 (.slice a n c) n (cl2 l)) : LsT w a l := by
  refine ⟨ls_form' h, fun hl => ?_⟩
  rcases h.2 with ⟨h', h0⟩ | ⟨g, cap, cur, h', hb, hg, _⟩
  · exfalso
    have h1 := (ls_form h).1
    exact hl (List.eq_nil_of_length_eq_zero (by omega))
  · simp only [Value.slice.injEq, true_and] at h'
    exact ⟨g, 0, cur.toList, h'.1, hg⟩
theorem own_capL {w : World} {base size : Nat} {e : TypeId} {a : Option Addr} {n c : Nat} {xs : List Value} (h : w.ownsRow base e size (.slice a n c) n xs) : n ≤ c := by
  rcases h.2 with ⟨h', rfl⟩ | ⟨g', cap', cur, h', hb, hg, hnc, hcm, hcs, htake⟩
  · omega
  · simp only [Value.slice.injEq] at h'
    omega
theorem zeroI (w : World) : (zeroValue 49).run Try.prog w = .ok (.agg #[.int .i64 0, .int .i64 0]) w := by kernel_rfl
theorem own_take2 {w : World} {base : Nat} {e : TypeId} {g n c : Nat} {l : List (Int × Int)} (h : w.ownsRow base e 2 (.slice (some ⟨g, 0, none⟩) n c) n (cl2 l)) (k : Nat) (hk : k ≤ n) : w.ownsRow base e 2 (.slice (some ⟨g, 0, none⟩) k c) k (cl2 (l.take k)) := by
  have hl := (ls_form h).1
  refine ⟨by simp [cl2_len, hl]; omega, ?_⟩
  rcases h.2 with ⟨h', _⟩ | ⟨g', cap', cur, h', hb, hg, hnc, hcm, hcs, htake⟩
  · simp at h'
  · simp only [Value.slice.injEq, Option.some.injEq, Addr.mk.injEq, and_true, true_and] at h'
    obtain ⟨rfl, rfl⟩ := h'
    refine .inr ⟨_, _, cur, rfl, hb, hg, by omega, hcm, hcs, ?_⟩
    have e1 : cl2 l = cl2 (l.take k) ++ cl2 (l.drop k) := by unfold cl2; rw [← List.flatMap_append, List.take_append_drop]
    have e2 : (cl2 l).take (k * 2) = cl2 (l.take k) := by
      have hlen : (cl2 (l.take k)).length = k * 2 := by rw [cl2_len, List.length_take]; omega
      rw [e1, ← hlen, List.take_left]
    rw [← e2, ← htake, List.take_take]
    congr 1
    omega
theorem Kept.toGrown {g : Nat} {w w' : World} (h : Kept [g] w w') : w.grownBy w' (some g) := ⟨h.os, h.tape, h.output, h.size, fun k hk hn => h.block k hk (fun hc => by simp at hc; exact hn (by rw [hc]))⟩
theorem own_set {w w2 : World} {base b : Nat} {e : TypeId} {v : Value} {n : Nat} {xs : List Value} (h : w.ownsRow base e 2 v n xs) (hk : Kept [b] w w2) (hb : b < base) : w2.ownsRow base e 2 v n xs :=
  h.kept (Kept.toGrown hk) (by
    rcases hv : v.ownBlock with _ | q
    · exact .inl rfl
    · refine .inr ?_
      have h1 := (h.lt q hv).1
      intro e1
      simp only [Option.some.injEq] at e1
      omega)
theorem ret_c2 {P : Program} {w : World} {fn : Func} {p q r : Tmp} {ty : TypeId} (h : fn.results = #[.cell p ty, .tmp q, .tmp r]) (tmps : Array Value) (g : Nat) (T : TypeId) (xs : List Value) (u v : Value) (d : TypeDesc)
    (hp : tmps.getD p undef = .pointer (some ⟨g, 0, none⟩)) (hq : tmps.getD q undef = u) (hr : tmps.getD r undef = v) (hb : Blk w g xs T)
    (hu : P.underlying ty = some d) (hd : (match d with | .struct _ | .array _ _ => true | _ => false) = true) (hi : (P.info? ty).map (·.size) = some xs.length) :
    (results fn tmps).run P w = .ok (.tuple #[.agg xs.toArray, u, v]) w := by
  have hp' : tmps[p]?.getD undef = .pointer (some ⟨g, 0, none⟩) := by simpa using hp
  have hq' : tmps[q]?.getD undef = u := by simpa using hq
  have hr' : tmps[r]?.getD undef = v := by simpa using hr
  simp [results, h, hp', hq', hr', asAddr, run_loadVar_row w g T ty xs.toArray (0, 0) d hb hu hd (by simpa using hi)]
theorem infoQ : (Try.prog.info? 41).map (·.size) = some 2 := by kernel_rfl
def pushR (l : List (Int × Int)) (x : Int × Int) (room : Int) : List (Int × Int) × Int × Bool :=
  if ((insR l x).length : Int) ≤ room then (insR l x, 0, false) else ((insR l x).dropLast, ((insR l x).getLastD (0, 0)).2, true)
def PuP (w : World) (room : Int) (r : List (Int × Int) × Int × Bool) (e : Ending) (w' : World) : Prop :=
  ∃ a n c, e = .returned (.tuple #[.agg #[.int .i64 room, .slice a n c], .int .i64 r.2.1, .bool r.2.2]) ∧ r.1.length = n ∧ n ≤ c ∧ LsT w' a r.1 ∧ Kept [] w w'
set_option maxRecDepth 100000 in
set_option maxHeartbeats 12000000 in
theorem rpush_any (a : Option Addr) (n c : Nat) (l : List (Int × Int)) (room rank v : Int) (w : World) (hl : Ls w a l) (hn : l.length = n) (h100 : n ≤ 100) :
    Calls Try.prog 26 #[.agg #[.int .i64 room, .slice a n c], .int .i64 rank, .int .i64 v] w (PuP w room (pushR l (rank, v) room)) := by
  have hz := zeroQ
  have HL := hx hl
  have HN := hx hn
  have P0 := hx (show PuW w ((w.alloc (.cells #[.int .i64 room, .slice a n c] 41)).alloc (.cells #[.int .i64 0, .slice none 0 0] 41)) room (.slice a n c) from
    ⟨(Blk.new w [.int .i64 room, .slice a n c] 41).alloc _, by
      have h := Blk.new (w.alloc (.cells #[.int .i64 room, .slice a n c] 41)) [.int .i64 0, .slice none 0 0] 41
      rw [World.size_alloc] at h
      exact h, ((Kept.refl _ _).alloc _).alloc _⟩)
  have HQ := hx (show PuP w room (pushR l (rank, v) room) = PuP w room (pushR l (rank, v) room) from rfl)
  generalize hPP : PuP w room (pushR l (rank, v) room) = PP at *
  have HPP := hx hPP
  clear hl hn hPP HQ
  go_enter Try.func26, Try.ntmps26
  go_wp2_with fail
  generalize (w.alloc (.cells #[.int .i64 room, .slice a n c] 41)).alloc (.cells #[.int .i64 0, .slice none 0 0] 41) = W0 at *
  clear hz
  go_loopw [9, 10, 11] (fun ov bv iv wr => ∃ (i : Nat) (b : Bool) (out : List (Int × Int)) (u : Value), i ≤ n ∧ iv = .int .i64 i ∧ bv = .bool b ∧ u = ov ∧ PuI l (rank, v) i b out ∧ wr.ownsRow (w.heap.size + 2) 49 2 u out.length (cl2 out) ∧ PuW w wr room (.slice a n c)) (fun _ _ iv _ => n - (intOf iv).toNat)
  case atStart => exact ⟨0, false, [], _, by omega, rfl, rfl, rfl, PuI.zero _ _, World.ownsRow_nil _ _ _ _, P0.out⟩
  case round =>
    clear P0
    obtain ⟨i, b, out, u, hi, rfl, rfl, rfl, hpi, ho, hp⟩ := hrel
    have HPI := hx hpi
    have HO := hx ho
    have HP := hx hp
    have HLN := hx (show out.length ≤ 101 by have h := hpi.2; split at h <;> omega)
    clear hpi ho hp
    by_cases hlt : i < n
    · have hli : (i : Int) < (n : Int) := by omega
      have hil : i < l.length := by have := HN.out; omega
      obtain ⟨g, off, rfl, e1, e2⟩ := (HL.out.kept HP.out.k) i hil
      have c1 := HP.out.b0.cell (i := 1) rfl
      have HE := hx (fun (w3 : World) (hk : Kept [] w w3) => show w3.cell? ⟨g, off + i * 2, none⟩ = some (.int .i64 (l.getD i (0, 0)).1) ∧ w3.cell? ⟨g, off + i * 2 + 1, none⟩ = some (.int .i64 (l.getD i (0, 0)).2) by
        obtain ⟨g', off', h1, h2, h3⟩ := (HL.out.kept hk) i hil
        simp only [Option.some.injEq, Addr.mk.injEq, and_true] at h1
        obtain ⟨rfl, rfl⟩ := h1
        exact ⟨h2, h3⟩)
      cases b
      · by_cases hr : rank < (l.getD i (0, 0)).1
        · have HI2 := hx (HPI.out.puts hil hr)
          clear HPI
          generalize l.getD i (0, 0) = y at *
          obtain ⟨y1, y2⟩ := y
          simp only at hr e1 e2
          go_wp2_with (first
            | (at_builtin; refine wpList_app rfl (.tmp 32) (.tmp 36) 39 rfl (w.heap.size + 2) 49 (.agg #[.int .i64 0, .int .i64 0]) 2 16 infoIt2 Try.underlying39 rfl (by omega) u out.length (cl2 out) rfl (World.ownsRow.alloc HO.out _) (some ⟨_, 0, none⟩) 1 1 (ci2 (rank, v)) rfl rfl (by simp) (by omega) (blk_news (Blk.new _ (ci2 (rank, v)) 49)) (one_ci2 _) (by unfold maxLen; have := HLN.out; omega) (by have := HLN.out; omega) (HP.out.alloc _).size ?_; intro u2 w8 ho8 hg8; have HP8 := hx ((HP.out.alloc _).grown hg8 (fun q hq => (HO.out.lt q hq).1)); have HO8 := hx (own_push2 ho8); obtain ⟨e1, e2⟩ := HE.out w8 HP8.out.k; have c1 := HP8.out.b0.cell (i := 1) rfl; have HLN8 := hx (show (out ++ [(rank, v)]).length ≤ 102 by have h := HLN.out; simp; omega); clear ho8 hg8 HO HP HLN)
            | (at_builtin; refine wpList_app rfl (.tmp 38) (.tmp 44) 39 rfl (w.heap.size + 2) 49 (.agg #[.int .i64 0, .int .i64 0]) 2 16 infoIt2 Try.underlying39 rfl (by omega) u2 (out ++ [(rank, v)]).length (cl2 (out ++ [(rank, v)])) rfl (World.ownsRow.alloc HO8.out _) (some ⟨_, 0, none⟩) 1 1 (ci2 (y1, y2)) rfl rfl (by simp) (by omega) (blk_news (Blk.new _ (ci2 (y1, y2)) 49)) (one_ci2 _) (by unfold maxLen; have := HLN8.out; omega) (by have := HLN8.out; omega) (HP8.out.alloc _).size ?_; intro u3 w9 ho9 hg9; have HP9 := hx ((HP8.out.alloc _).grown hg9 (fun q hq => (HO8.out.lt q hq).1)); have HO9 := hx (own_push2 ho9); clear ho9 hg9))
          go_wp2
          go_roundw
          case rel => exact ⟨i + 1, true, out ++ [(rank, v)] ++ [(y1, y2)], u3, by omega, by go_num, rfl, rfl, HI2.out, HO9.out, HP9.out⟩
          case measure => simp [intOf] <;> omega
        · have HI2 := hx (HPI.out.less hil hr)
          clear HPI
          generalize l.getD i (0, 0) = y at *
          obtain ⟨y1, y2⟩ := y
          simp only at hr e1 e2
          go_wp2_with (first
            | (at_builtin; refine wpList_app rfl (.tmp 38) (.tmp 44) 39 rfl (w.heap.size + 2) 49 (.agg #[.int .i64 0, .int .i64 0]) 2 16 infoIt2 Try.underlying39 rfl (by omega) u out.length (cl2 out) rfl (World.ownsRow.alloc HO.out _) (some ⟨_, 0, none⟩) 1 1 (ci2 (y1, y2)) rfl rfl (by simp) (by omega) (blk_news (Blk.new _ (ci2 (y1, y2)) 49)) (one_ci2 _) (by unfold maxLen; have := HLN.out; omega) (by have := HLN.out; omega) (HP.out.alloc _).size ?_; intro u2 w8 ho8 hg8; have HP8 := hx ((HP.out.alloc _).grown hg8 (fun q hq => (HO.out.lt q hq).1)); have HO8 := hx (own_push2 ho8); clear ho8 hg8))
          go_wp2
          go_roundw
          case rel => exact ⟨i + 1, false, out ++ [(y1, y2)], u2, by omega, by go_num, rfl, rfl, HI2.out, HO8.out, HP8.out⟩
          case measure => simp [intOf] <;> omega
      · have HI2 := hx (HPI.out.goes hil)
        clear HPI
        generalize l.getD i (0, 0) = y at *
        obtain ⟨y1, y2⟩ := y
        simp only at e1 e2
        go_wp2_with (first
          | (at_builtin; refine wpList_app rfl (.tmp 38) (.tmp 44) 39 rfl (w.heap.size + 2) 49 (.agg #[.int .i64 0, .int .i64 0]) 2 16 infoIt2 Try.underlying39 rfl (by omega) u out.length (cl2 out) rfl (World.ownsRow.alloc HO.out _) (some ⟨_, 0, none⟩) 1 1 (ci2 (y1, y2)) rfl rfl (by simp) (by omega) (blk_news (Blk.new _ (ci2 (y1, y2)) 49)) (one_ci2 _) (by unfold maxLen; have := HLN.out; omega) (by have := HLN.out; omega) (HP.out.alloc _).size ?_; intro u2 w8 ho8 hg8; have HP8 := hx ((HP.out.alloc _).grown hg8 (fun q hq => (HO.out.lt q hq).1)); have HO8 := hx (own_push2 ho8); clear ho8 hg8))
        go_wp2
        go_roundw
        case rel => exact ⟨i + 1, true, out ++ [(y1, y2)], u2, by omega, by go_num, rfl, rfl, HI2.out, HO8.out, HP8.out⟩
        case measure => simp [intOf] <;> omega
    · obtain rfl : i = n := by omega
      have c1 := HP.out.b0.cell (i := 1) rfl
      cases b
      · have HI2 := hx (show insR l (rank, v) = out ++ [(rank, v)] from PuI.last (by have h := HPI.out; rw [← HN.out] at h; exact h))
        clear HPI
        go_upto_region 12 with (first
          | (at_builtin; refine wpList_app rfl (.tmp 48) (.tmp 52) 39 rfl (w.heap.size + 2) 49 (.agg #[.int .i64 0, .int .i64 0]) 2 16 infoIt2 Try.underlying39 rfl (by omega) u out.length (cl2 out) rfl (World.ownsRow.alloc HO.out _) (some ⟨_, 0, none⟩) 1 1 (ci2 (rank, v)) rfl rfl (by simp) (by omega) (blk_news (Blk.new _ (ci2 (rank, v)) 49)) (one_ci2 _) (by unfold maxLen; have := HLN.out; omega) (by have := HLN.out; omega) (HP.out.alloc _).size ?_; intro u2 w8 ho8 hg8; have HP8 := hx ((HP.out.alloc _).grown hg8 (fun q hq => (HO.out.lt q hq).1)); have HO8 := hx (own_push2 ho8); clear ho8 hg8 HO HP))
        clear c1
        have HLE := hx (show (out ++ [(rank, v)]).length ≤ 102 ∧ 0 < (out ++ [(rank, v)]).length by have h := HLN.out; simp; omega)
        have HO := HO8
        have HP := HP8
        clear HO8 HP8 HLN
        generalize out ++ [(rank, v)] = L at *
        obtain ⟨g, cp, rfl, hgb, _⟩ := World.ownsRow.form HO.out HLE.out.2
        have c0 := HP.out.b0.cell (i := 0) rfl
        have c1 := HP.out.b0.cell (i := 1) rfl
        have hf := HP.out.b0.free
        by_cases hle : (L.length : Int) ≤ room
        · have HR := hx (show pushR l (rank, v) room = (L, 0, false) by unfold pushR; rw [HI2.out, if_pos hle])
          have B0 := hx (HP.out.b0.set 1 (.slice (some ⟨g, 0, none⟩) L.length cp))
          have B1 := hx (HP.out.b1.set_ne (a := ⟨w.heap.size, 1, none⟩) (by simp) (.slice (some ⟨g, 0, none⟩) L.length cp))
          have K1 := hx (HP.out.k.setCell (p := ⟨w.heap.size, 1, none⟩) (.inr (by simp)) (.slice (some ⟨g, 0, none⟩) L.length cp))
          have O1 := hx (own_set HO.out ((Kept.refl [w.heap.size] w8).setCell (p := ⟨w.heap.size, 1, none⟩) (.inl (by simp)) (.slice (some ⟨g, 0, none⟩) L.length cp)) (by omega))
          clear HO HP
          go_upto_region 14 with fail
          clear c0 c1 hf
          generalize World.setCell _ _ _ = W2 at *
          go_wp2_with (first
            | refine load_blk rfl 41 (.tmp 3) rfl w.heap.size rfl 41 _ _ B0.out Try.underlying41 rfl infoQ ?_
            | (refine store_blk rfl 41 (.tmp 6) (.tmp 61) rfl (w.heap.size + 1) rfl 41 _ [.int .i64 room, .slice (some ⟨g, 0, none⟩) L.length cp] rfl B1.out rfl infoQ (by intro x hx; simp at hx; rcases hx with rfl | rfl <;> rfl) ?_
               intro w9 hb9 hk9))
          refine bodyPost_ret (ret_c2 rfl _ (w.heap.size + 1) _ _ _ _ _ rfl rfl rfl hb9 Try.underlying41 rfl infoQ) rfl ?_
          rw [← HPP.out, HR.out]
          exact ⟨_, _, _, rfl, rfl, own_capL O1.out, ls_formT (own_set O1.out hk9 (by omega)), K1.out.trans hk9 (fun _ h => h) (fun x h => by simp at h; right; omega)⟩
        · have hz49 := zeroI
          obtain ⟨m, hm⟩ : ∃ m, L.length = m + 1 := ⟨L.length - 1, by have := HLE.out.2; omega⟩
          have HY := hx (show L.dropLast = L.take m ∧ L.getLastD (0, 0) = L.getD m (0, 0) by
            refine ⟨by rw [List.dropLast_eq_take, hm]; rfl, ?_⟩
            rw [List.getLastD_eq_getLast?, List.getLast?_eq_getElem?, hm]
            simp [List.getD])
          have HR := hx (show pushR l (rank, v) room = (L.take m, (L.getD m (0, 0)).2, true) by unfold pushR; rw [HI2.out, if_neg hle, HY.out.1, HY.out.2])
          have HTK := hx (show (L.take m).length = m by rw [List.length_take, hm]; omega)
          obtain ⟨g', off', hg', e1, e2⟩ := ls_form' HO.out m (by omega)
          simp only [Option.some.injEq, Addr.mk.injEq, and_true] at hg'
          obtain ⟨rfl, rfl⟩ := hg'
          simp only [Nat.zero_add] at e1 e2
          have OT := hx (own_take2 HO.out m (by omega))
          have HCP := hx (own_capL HO.out)
          generalize L.getD m (0, 0) = y at *
          generalize L.take m = D at *
          obtain ⟨y1, y2⟩ := y
          simp only at e1 e2
          have hm101 : m ≤ 101 := by have h := HLE.out.1; omega
          have hmc : (m : Int) ≤ (cp : Int) := by have h := HCP.out; omega
          have HQN := hx (Blk.new w8 [.int .i64 y1, .int .i64 y2] 49)
          clear HO
          rw [hm] at hle HCP
          rw [hm]
          go_upto_region 16 with fail
          have HP9 := hx (HP.out.alloc (.cells #[.int .i64 y1, .int .i64 y2] 49))
          have OT9 := hx (World.ownsRow.alloc OT.out (.cells #[.int .i64 y1, .int .i64 y2] 49))
          have HQL := hx (show w.heap.size + 1 < w8.heap.size from HP.out.b1.lt)
          clear HP OT e1 e2 c0 c1 hf hz49
          generalize w8.heap.size = q at *
          generalize w8.alloc (.cells #[.int .i64 y1, .int .i64 y2] 49) = W9 at *
          have c1 := HP9.out.b0.cell (i := 1) rfl
          have hf := HP9.out.b0.free
          have B0 := hx (HP9.out.b0.set 1 (.slice (some ⟨g, 0, none⟩) m cp))
          have B1 := hx (HP9.out.b1.set_ne (a := ⟨w.heap.size, 1, none⟩) (by simp) (.slice (some ⟨g, 0, none⟩) m cp))
          have Q1 := hx (HQN.out.set_ne (a := ⟨w.heap.size, 1, none⟩) (by have h := HQL.out; simp; omega) (.slice (some ⟨g, 0, none⟩) m cp))
          have K1 := hx (HP9.out.k.setCell (p := ⟨w.heap.size, 1, none⟩) (.inr (by simp)) (.slice (some ⟨g, 0, none⟩) m cp))
          have O1 := hx (own_set OT9.out ((Kept.refl [w.heap.size] W9).setCell (p := ⟨w.heap.size, 1, none⟩) (.inl (by simp)) (.slice (some ⟨g, 0, none⟩) m cp)) (by omega))
          clear HP9 OT9 HQN
          go_upto_region 17 with fail
          clear c1 hf
          generalize World.setCell _ _ _ = W2 at *
          have c00 := B0.out.cell (i := 0) (v := .int .i64 room) rfl
          have c01 := B0.out.cell (i := 1) (v := .slice (some ⟨g, 0, none⟩) m cp) rfl
          have c10 := B1.out.cell (i := 0) rfl
          have c11 := B1.out.cell (i := 1) rfl
          have cq := Q1.out.cell (i := 1) (v := .int .i64 y2) rfl
          have hf := B1.out.free
          have BF := hx (show Blk _ (w.heap.size + 1) [.int .i64 room, .slice (some ⟨g, 0, none⟩) m cp] 41 from ((B1.out.set 0 (.int .i64 room)).set 1 (.slice (some ⟨g, 0, none⟩) m cp)).drew)
          have KW := (((Kept.refl [w.heap.size + 1] W2).setCell (p := ⟨w.heap.size + 1, 0, none⟩) (.inl (by simp)) (.int .i64 room)).setCell (p := ⟨w.heap.size + 1, 1, none⟩) (.inl (by simp)) (.slice (some ⟨g, 0, none⟩) m cp)).drew
          have OF := hx (own_set O1.out KW (by omega))
          have KF := hx (K1.out.trans KW (fun _ h => h) (fun x h => by simp at h; right; omega))
          clear KW
          go_region
          go_wp2_with fail
          refine bodyPost_ret (ret_c2 rfl _ (w.heap.size + 1) _ _ _ _ _ rfl rfl rfl BF.out Try.underlying41 rfl infoQ) rfl ?_
          rw [← HPP.out, HR.out]
          exact ⟨_, _, _, rfl, HTK.out, own_capL OF.out, ls_formT OF.out, KF.out⟩
      · have HI2 := hx (show insR l (rank, v) = out from PuI.done (by have h := HPI.out; rw [← HN.out] at h; exact h))
        have HLE := hx (show out.length ≤ 102 ∧ 0 < out.length by have h := HPI.out.2; simp at h; omega)
        clear HPI HLN
        go_upto_region 12 with fail
        clear c1
        generalize out = L at *
        obtain ⟨g, cp, rfl, hgb, _⟩ := World.ownsRow.form HO.out HLE.out.2
        have c0 := HP.out.b0.cell (i := 0) rfl
        have c1 := HP.out.b0.cell (i := 1) rfl
        have hf := HP.out.b0.free
        by_cases hle : (L.length : Int) ≤ room
        · have HR := hx (show pushR l (rank, v) room = (L, 0, false) by unfold pushR; rw [HI2.out, if_pos hle])
          have B0 := hx (HP.out.b0.set 1 (.slice (some ⟨g, 0, none⟩) L.length cp))
          have B1 := hx (HP.out.b1.set_ne (a := ⟨w.heap.size, 1, none⟩) (by simp) (.slice (some ⟨g, 0, none⟩) L.length cp))
          have K1 := hx (HP.out.k.setCell (p := ⟨w.heap.size, 1, none⟩) (.inr (by simp)) (.slice (some ⟨g, 0, none⟩) L.length cp))
          have O1 := hx (own_set HO.out ((Kept.refl [w.heap.size] wr).setCell (p := ⟨w.heap.size, 1, none⟩) (.inl (by simp)) (.slice (some ⟨g, 0, none⟩) L.length cp)) (by omega))
          clear HO HP
          go_upto_region 14 with fail
          clear c0 c1 hf
          generalize World.setCell _ _ _ = W2 at *
          go_wp2_with (first
            | refine load_blk rfl 41 (.tmp 3) rfl w.heap.size rfl 41 _ _ B0.out Try.underlying41 rfl infoQ ?_
            | (refine store_blk rfl 41 (.tmp 6) (.tmp 61) rfl (w.heap.size + 1) rfl 41 _ [.int .i64 room, .slice (some ⟨g, 0, none⟩) L.length cp] rfl B1.out rfl infoQ (by intro x hx; simp at hx; rcases hx with rfl | rfl <;> rfl) ?_
               intro w9 hb9 hk9))
          refine bodyPost_ret (ret_c2 rfl _ (w.heap.size + 1) _ _ _ _ _ rfl rfl rfl hb9 Try.underlying41 rfl infoQ) rfl ?_
          rw [← HPP.out, HR.out]
          exact ⟨_, _, _, rfl, rfl, own_capL O1.out, ls_formT (own_set O1.out hk9 (by omega)), K1.out.trans hk9 (fun _ h => h) (fun x h => by simp at h; right; omega)⟩
        · have hz49 := zeroI
          obtain ⟨m, hm⟩ : ∃ m, L.length = m + 1 := ⟨L.length - 1, by have := HLE.out.2; omega⟩
          have HY := hx (show L.dropLast = L.take m ∧ L.getLastD (0, 0) = L.getD m (0, 0) by
            refine ⟨by rw [List.dropLast_eq_take, hm]; rfl, ?_⟩
            rw [List.getLastD_eq_getLast?, List.getLast?_eq_getElem?, hm]
            simp [List.getD])
          have HR := hx (show pushR l (rank, v) room = (L.take m, (L.getD m (0, 0)).2, true) by unfold pushR; rw [HI2.out, if_neg hle, HY.out.1, HY.out.2])
          have HTK := hx (show (L.take m).length = m by rw [List.length_take, hm]; omega)
          obtain ⟨g', off', hg', e1, e2⟩ := ls_form' HO.out m (by omega)
          simp only [Option.some.injEq, Addr.mk.injEq, and_true] at hg'
          obtain ⟨rfl, rfl⟩ := hg'
          simp only [Nat.zero_add] at e1 e2
          have OT := hx (own_take2 HO.out m (by omega))
          have HCP := hx (own_capL HO.out)
          generalize L.getD m (0, 0) = y at *
          generalize L.take m = D at *
          obtain ⟨y1, y2⟩ := y
          simp only at e1 e2
          have hm101 : m ≤ 101 := by have h := HLE.out.1; omega
          have hmc : (m : Int) ≤ (cp : Int) := by have h := HCP.out; omega
          have HQN := hx (Blk.new wr [.int .i64 y1, .int .i64 y2] 49)
          clear HO
          rw [hm] at hle HCP
          rw [hm]
          go_upto_region 16 with fail
          have HP9 := hx (HP.out.alloc (.cells #[.int .i64 y1, .int .i64 y2] 49))
          have OT9 := hx (World.ownsRow.alloc OT.out (.cells #[.int .i64 y1, .int .i64 y2] 49))
          have HQL := hx (show w.heap.size + 1 < wr.heap.size from HP.out.b1.lt)
          clear HP OT e1 e2 c0 c1 hf hz49
          generalize wr.heap.size = q at *
          generalize wr.alloc (.cells #[.int .i64 y1, .int .i64 y2] 49) = W9 at *
          have c1 := HP9.out.b0.cell (i := 1) rfl
          have hf := HP9.out.b0.free
          have B0 := hx (HP9.out.b0.set 1 (.slice (some ⟨g, 0, none⟩) m cp))
          have B1 := hx (HP9.out.b1.set_ne (a := ⟨w.heap.size, 1, none⟩) (by simp) (.slice (some ⟨g, 0, none⟩) m cp))
          have Q1 := hx (HQN.out.set_ne (a := ⟨w.heap.size, 1, none⟩) (by have h := HQL.out; simp; omega) (.slice (some ⟨g, 0, none⟩) m cp))
          have K1 := hx (HP9.out.k.setCell (p := ⟨w.heap.size, 1, none⟩) (.inr (by simp)) (.slice (some ⟨g, 0, none⟩) m cp))
          have O1 := hx (own_set OT9.out ((Kept.refl [w.heap.size] W9).setCell (p := ⟨w.heap.size, 1, none⟩) (.inl (by simp)) (.slice (some ⟨g, 0, none⟩) m cp)) (by omega))
          clear HP9 OT9 HQN
          go_upto_region 17 with fail
          clear c1 hf
          generalize World.setCell _ _ _ = W2 at *
          have c00 := B0.out.cell (i := 0) (v := .int .i64 room) rfl
          have c01 := B0.out.cell (i := 1) (v := .slice (some ⟨g, 0, none⟩) m cp) rfl
          have c10 := B1.out.cell (i := 0) rfl
          have c11 := B1.out.cell (i := 1) rfl
          have cq := Q1.out.cell (i := 1) (v := .int .i64 y2) rfl
          have hf := B1.out.free
          have BF := hx (show Blk _ (w.heap.size + 1) [.int .i64 room, .slice (some ⟨g, 0, none⟩) m cp] 41 from ((B1.out.set 0 (.int .i64 room)).set 1 (.slice (some ⟨g, 0, none⟩) m cp)).drew)
          have KW := (((Kept.refl [w.heap.size + 1] W2).setCell (p := ⟨w.heap.size + 1, 0, none⟩) (.inl (by simp)) (.int .i64 room)).setCell (p := ⟨w.heap.size + 1, 1, none⟩) (.inl (by simp)) (.slice (some ⟨g, 0, none⟩) m cp)).drew
          have OF := hx (own_set O1.out KW (by omega))
          have KF := hx (K1.out.trans KW (fun _ h => h) (fun x h => by simp at h; right; omega))
          clear KW
          go_region
          go_wp2_with fail
          refine bodyPost_ret (ret_c2 rfl _ (w.heap.size + 1) _ _ _ _ _ rfl rfl rfl BF.out Try.underlying41 rfl infoQ) rfl ?_
          rw [← HPP.out, HR.out]
          exact ⟨_, _, _, rfl, HTK.out, own_capL OF.out, ls_formT OF.out, KF.out⟩
end Go.Proofs.Ythpdoekeooedfaa
