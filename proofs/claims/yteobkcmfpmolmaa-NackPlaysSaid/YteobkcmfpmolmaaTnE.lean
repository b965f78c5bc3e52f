/- The timer's Start. -/
import Derived.Test.YteobkcmfpmolmaaTnD
import Derived.Test.YteobkcmfpmolmaaApx
namespace Go.Proofs.Yteobkcmfpmolmaa
open Go Go.RowKit Go.Shelf
theorem own_some3 {w : World} {base : Nat} {T : TypeId} {v : Value} {n : Nat} {xs : List Value} (h : w.ownsRow base T 3 v (n + 1) xs) : ∃ g c, v = .slice (some ⟨g, 0, none⟩) (n + 1) c := by
  rcases h with ⟨_, ⟨_, hn⟩ | ⟨g, cap, cur, rfl, _⟩⟩
  · omega
  · exact ⟨g, cap, rfl⟩
theorem news3 (W : World) (x : En) (T : TypeId) : ∀ j u, (enc3 x)[j]? = some u → (W.alloc (.cells #[.int .u32 x.key, .int .i64 x.due, .int .i64 x.no] T)).cell? ((⟨W.heap.size, 0, none⟩ : Addr).add j) = some u := by
  intro j u hj
  rw [Addr.add_mid, Nat.zero_add]
  exact (Blk.new W (enc3 x) T).cell hj
theorem one_enc3 (x : En) : ∀ u ∈ enc3 x, u.oneCell' = true := by
  intro u hu
  simp only [enc3, List.mem_cons, List.not_mem_nil, or_false] at hu
  rcases hu with rfl | rfl | rfl <;> rfl
def StartP (w : World) (q : Nat) (v : Value) (room now no k ticks : Int) (h : List En) (e : Ending) (w' : World) : Prop :=
  ∃ v' no' h', KeptT w w' q v v' ∧ Ts w' q v' room now no' h' ∧
    (((ticks < 1 ∨ 1099511627776 < ticks) ∧ e = .returned (.int .i64 1) ∧ h' = h ∧ no' = no) ∨
     (1 ≤ ticks ∧ ticks ≤ 1099511627776 ∧ keyAt k h = none ∧ room ≤ h.length ∧ e = .returned (.int .i64 2) ∧ h' = h ∧ no' = no) ∨
     (1 ≤ ticks ∧ ticks ≤ 1099511627776 ∧ keyAt k h = none ∧ h.length < room ∧ e = .returned (.int .i64 0) ∧ h' = h ++ [⟨k, now + ticks, no + 1⟩] ∧ no' = no + 1) ∨
     (1 ≤ ticks ∧ ticks ≤ 1099511627776 ∧ ∃ i, keyAt k h = some i ∧ e = .returned (.int .i64 0) ∧ h' = h.eraseIdx i ++ [⟨k, now + ticks, no + 1⟩] ∧ no' = no + 1))
set_option maxHeartbeats 1600000 in
theorem start_bad (q : Nat) (v : Value) (room now no k ticks : Int) (h : List En) (w : World) (s : Ts w q v room now no h) (hb : ticks < 1 ∨ 1099511627776 < ticks) :
    Calls Try.prog 23 #[.pointer (some ⟨q, 0, none⟩), .int .u32 k, .int .i64 ticks] w (StartP w q v room now no k ticks h) := by
  have HQ := hx (show StartP w q v room now no k ticks h (.returned (.int .i64 1)) w from ⟨v, no, h, KeptT.refl _ _ _, s, .inl ⟨hb, rfl, rfl, rfl⟩⟩)
  generalize StartP w q v room now no k ticks h = PP at *
  clear s
  by_cases h1 : ticks < 1
  · clear hb
    go_enter Try.func23, Try.ntmps23
    go_wp2
    exact HQ.out
  · have hd1 : decide (ticks < 1) = false := decide_eq_false h1
    have hd2 : decide (1099511627776 < ticks) = true := decide_eq_true (by omega)
    clear hb h1
    go_enter Try.func23, Try.ntmps23
    go_wp2
    exact HQ.out
set_option maxHeartbeats 3200000 in
theorem start_full (q : Nat) (v : Value) (room now no k ticks : Int) (h : List En) (w : World) (s : Ts w q v room now no h) (h1 : 1 ≤ ticks) (h2 : ticks ≤ 1099511627776) (hl : h.length ≤ 1000000) (hk : keyAt k h = none) (hr : room ≤ h.length) :
    Calls Try.prog 23 #[.pointer (some ⟨q, 0, none⟩), .int .u32 k, .int .i64 ticks] w (StartP w q v room now no k ticks h) := by
  have HS := hx s
  have HF := hx (find_any q v room now no k h w s hl)
  have HQ := hx (fun w1 (hk1 : Kept [] w w1) => show StartP w q v room now no k ticks h (.returned (.int .i64 2)) w1 from ⟨v, no, h, KeptT.of hk1, s.kept hk1, .inr (.inl ⟨h1, h2, hk, hr, rfl, rfl, rfl⟩)⟩)
  generalize StartP w q v room now no k ticks h = PP at *
  rw [fi_none hk] at HF
  have hd1 : decide (ticks < 1) = false := decide_eq_false (by omega)
  have hd2 : decide (1099511627776 < ticks) = false := decide_eq_false (by omega)
  have hd3 : decide (room ≤ (h.length : Int)) = true := decide_eq_true hr
  clear s h1 h2 hk hr
  go_enter Try.func23, Try.ntmps23
  go_wp2_with fail
  refine HF.out.mono ?_
  rintro e w1 ⟨rfl, hk1⟩
  have HK1 := hx hk1
  have HS1 := hx (HS.out.kept hk1)
  have c3 := HS1.out.hq.cell (i := 3) rfl
  have c0 := HS1.out.hq.cell (i := 0) rfl
  obtain ⟨a, c, rfl⟩ := own_slice HS1.out.own
  clear hk1
  go_wp2_with fail
  go_quiet (fail)
  have K := hx ((Kept.refl [] w1).drewN nq)
  go_wp2
  exact HQ.out _ (HK1.out.trans0 K.out)
theorem Ts.no1 {w : World} {q : Nat} {v : Value} {room now no : Int} {h : List En} (s : Ts w q v room now no h) (m : Int) : Ts (w.setCell ⟨q, 2, none⟩ (.int .i64 m)) q v room now m h ∧ KeptT w (w.setCell ⟨q, 2, none⟩ (.int .i64 m)) q v v := by
  have hk := (Kept.refl [q] w).setCell (p := ⟨q, 2, none⟩) (.inl (by simp)) (.int .i64 m)
  exact ⟨⟨s.hq.set 2 _, own_ts s.own hk s.ne, s.ne⟩, hk.mono (by simp), .inl rfl⟩
theorem Ts.app {w W w2 : World} {q : Nat} {v v' : Value} {room now no : Int} {h : List En} {x : En} (s : Ts w q v room now no h) (hk : Kept [] w W) (hg : W.grownBy w2 v.ownBlock) (ho : w2.ownsRow 0 78 3 v' (h.length + 1) (cel h ++ enc3 x)) (ha : v'.ownBlock = v.ownBlock ∨ v'.ownBlock = some W.heap.size) :
    Ts (w2.setCell ⟨q, 3, none⟩ v') q v' room now no (h ++ [x]) ∧ KeptT w (w2.setCell ⟨q, 3, none⟩ v') q v v' := by
  refine s.put ((hk.mono (cs := v.ownBlock.toList) (by simp)).grown hg (fun k e => .inl (by simp [e]))) ?_ ?_
  · rw [cel_snoc, List.length_append]; exact ho
  · rcases ha with e | e
    · exact .inl e
    · exact .inr (.inr ⟨_, e, hk.size⟩)
theorem Ts.q3 {w W w2 : World} {q : Nat} {v : Value} {room now no : Int} {h : List En} (s : Ts w q v room now no h) (hk : Kept [] w W) (hg : W.grownBy w2 v.ownBlock) : w2.cell? ⟨q, 3, none⟩ = some v ∧ w2.frozen? ⟨q, 3, none⟩ = false := by
  have hb := ((Kept.refl v.ownBlock.toList W).grown hg (fun k e => .inl (by simp [e]))).blk (hk.blk s.hq (by simp)) (by simp; exact s.ne)
  exact ⟨hb.cell (i := 3) rfl, hb.free 3⟩
set_option maxRecDepth 100000 in
set_option maxHeartbeats 6400000 in
theorem start_new (q : Nat) (v : Value) (room now no k ticks : Int) (h : List En) (w : World) (s : Ts w q v room now no h) (h1 : 1 ≤ ticks) (h2 : ticks ≤ 1099511627776) (hl : h.length ≤ 1000000) (hk : keyAt k h = none) (hr : h.length < room) (hn0 : 0 ≤ no) (hn1 : no ≤ 1000000000) (hw0 : 0 ≤ now) (hw1 : now ≤ 1099511627776) :
    Calls Try.prog 23 #[.pointer (some ⟨q, 0, none⟩), .int .u32 k, .int .i64 ticks] w (StartP w q v room now no k ticks h) := by
  have HS := hx s
  have HF := hx (find_any q v room now no k h w s hl)
  have HQ := hx (fun (w1 : World) (v' : Value) (hk1 : KeptT w w1 q v v') (hs : Ts w1 q v' room now (no + 1) (h ++ [⟨k, now + ticks, no + 1⟩])) => show StartP w q v room now no k ticks h (.returned (.int .i64 0)) w1 from ⟨v', _, _, hk1, hs, .inr (.inr (.inl ⟨h1, h2, hk, hr, rfl, rfl, rfl⟩))⟩)
  generalize StartP w q v room now no k ticks h = PP at *
  rw [fi_none hk] at HF
  have hd1 : decide (ticks < 1) = false := decide_eq_false (by omega)
  have hd2 : decide (1099511627776 < ticks) = false := decide_eq_false (by omega)
  have hd3 : decide (room ≤ (h.length : Int)) = false := decide_eq_false (by omega)
  have hsum : IntKind.i64.wrap (now + ticks) = now + ticks := IntWalk.i64_in _ (by omega)
  clear s h1 h2 hk hr hw0 hw1
  go_enter Try.func23, Try.ntmps23
  go_wp2_with fail
  refine HF.out.mono ?_
  rintro e w1 ⟨rfl, hk1⟩
  have HK1 := hx hk1
  have HS1 := hx (HS.out.kept hk1)
  have c3 := HS1.out.hq.cell (i := 3) rfl
  have c0 := HS1.out.hq.cell (i := 0) rfl
  obtain ⟨a, c, rfl⟩ := own_slice HS1.out.own
  clear hk1
  go_wp2_with fail
  go_quiet (fail)
  have HKd := hx ((Kept.refl [] w1).drewN nq)
  have HS2 := hx (HS1.out.kept HKd.out)
  have HK2 := hx (HK1.out.trans0 HKd.out)
  clear c3 c0 HKd
  generalize w1.drewN nq = w2 at *
  have c2 := HS2.out.hq.cell (i := 2) rfl
  have hf := HS2.out.hq.free
  go_upto_region 7 with fail
  have HN := hx (HS2.out.no1 (no + 1))
  clear c2 hf
  generalize w2.setCell ⟨q, 2, none⟩ (.int .i64 (no + 1)) = w3 at *
  have HS3 := hx HN.out.1
  have HT3 := hx ((KeptT.of HK2.out).trans HN.out.2)
  have c1 := HS3.out.hq.cell (i := 1) rfl
  have c2 := HS3.out.hq.cell (i := 2) rfl
  have d1 := (HS3.out.hq.alloc (.cells #[.int .u32 0, .int .i64 0, .int .i64 0] 78)).cell (i := 1) rfl
  have d2 := (HS3.out.hq.alloc (.cells #[.int .u32 0, .int .i64 0, .int .i64 0] 78)).cell (i := 2) rfl
  go_region
  have HS4 := hx (HS3.out.kept (((Kept.refl [] w3).alloc (.cells #[.int .u32 k, .int .i64 (now + ticks), .int .i64 (no + 1)] 78)).drew))
  have HT4 := hx (HT3.out.trans (KeptT.of (((Kept.refl [] w3).alloc (.cells #[.int .u32 k, .int .i64 (now + ticks), .int .i64 (no + 1)] 78)).drew)))
  have B4 := hx ((Blk.new w3 [.int .u32 k, .int .i64 (now + ticks), .int .i64 (no + 1)] 78).drew)
  clear c1 c2 d1 d2 hsum
  generalize w3.heap.size = eb at *
  generalize (w3.alloc (.cells #[.int .u32 k, .int .i64 (now + ticks), .int .i64 (no + 1)] 78)).drew = w4 at *
  have e0 := B4.out.cell (i := 0) rfl
  have e1 := B4.out.cell (i := 1) rfl
  have e2 := B4.out.cell (i := 2) rfl
  have hqf := HS4.out.hq.free
  have c3 := HS4.out.hq.cell (i := 3) rfl
  have d3 := (HS4.out.hq.alloc (.cells #[.int .u32 k, .int .i64 (now + ticks), .int .i64 (no + 1)] 78)).cell (i := 3) rfl
  have f0 := (B4.out.alloc (.cells #[.int .u32 k, .int .i64 (now + ticks), .int .i64 (no + 1)] 78)).cell (i := 0) rfl
  have HLE := hx hl
  go_wp2_with fail
  go_region_law ((refine step_app_at rfl (.tmp 68) (.tmp 70) 79 rfl 0 78 _ 3 24 infoEn Try.underlying79 rfl (by omega) (.slice a h.length c) h.length (cel h) rfl (HS4.out.own.alloc _) ⟨w4.heap.size, 0, none⟩ 1 1 (enc3 ⟨k, now + ticks, no + 1⟩) rfl rfl (news3 w4 ⟨k, now + ticks, no + 1⟩ _) (one_enc3 _) (by have := HLE.out; unfold maxLen; omega) (by have := HLE.out; omega) (Nat.zero_le _) ?_; intro v2 w5 o5 g5 at5; have zz := HS4.out.q3 (by repeat (first | exact Kept.refl _ _ | apply Kept.drew | apply Kept.alloc)) g5; obtain ⟨z1, z2⟩ := zz; obtain ⟨gb, cb, ev⟩ := own_some3 o5; subst ev))
  all_goals
    have HA := hx (HS4.out.app (by repeat (first | exact Kept.refl _ _ | apply Kept.drew | apply Kept.alloc)) g5 o5 at5)
    clear z1 z2 g5 o5 at5
    go_wp2
    exact HQ.out _ _ (HT4.out.trans HA.out.2) HA.out.1
set_option maxRecDepth 100000 in
set_option maxHeartbeats 6400000 in
theorem start_old (q : Nat) (v : Value) (room now no k ticks : Int) (h : List En) (w : World) (s : Ts w q v room now no h) (h1 : 1 ≤ ticks) (h2 : ticks ≤ 1099511627776) (hl : h.length ≤ 1000000) (i : Nat) (hk : keyAt k h = some i) (hn0 : 0 ≤ no) (hn1 : no ≤ 1000000000) (hw0 : 0 ≤ now) (hw1 : now ≤ 1099511627776) :
    Calls Try.prog 23 #[.pointer (some ⟨q, 0, none⟩), .int .u32 k, .int .i64 ticks] w (StartP w q v room now no k ticks h) := by
  have HS := hx s
  have HF := hx (find_any q v room now no k h w s hl)
  have HQ := hx (fun (w1 : World) (v' : Value) (hk1 : KeptT w w1 q v v') (hs : Ts w1 q v' room now (no + 1) (h.eraseIdx i ++ [⟨k, now + ticks, no + 1⟩])) => show StartP w q v room now no k ticks h (.returned (.int .i64 0)) w1 from ⟨v', _, _, hk1, hs, .inr (.inr (.inr ⟨h1, h2, i, hk, rfl, rfl, rfl⟩))⟩)
  generalize StartP w q v room now no k ticks h = PP at *
  rw [fi_some hk] at HF
  have hi := (keyAt_some hk).1
  have hd1 : decide (ticks < 1) = false := decide_eq_false (by omega)
  have hd2 : decide (1099511627776 < ticks) = false := decide_eq_false (by omega)
  have hin : (0 : Int) ≤ (i : Int) := by omega
  have hid : decide ((i : Int) < 0) = false := decide_eq_false (by omega)
  have hib : (i : Int) ≤ 1000000 := by omega
  have HI1 := hx (show ((i : Int) + 1) = ((i + 1 : Nat) : Int) by omega)
  have hsum : IntKind.i64.wrap (now + ticks) = now + ticks := IntWalk.i64_in _ (by omega)
  clear s h1 h2 hk hw0 hw1
  go_enter Try.func23, Try.ntmps23
  go_wp2_with fail
  refine HF.out.mono ?_
  rintro e w1 ⟨rfl, hk1⟩
  have HK1 := hx hk1
  have HS1 := hx (HS.out.kept hk1)
  have c3 := HS1.out.hq.cell (i := 3) rfl
  have c0 := HS1.out.hq.cell (i := 0) rfl
  obtain ⟨a, c, rfl⟩ := own_slice HS1.out.own
  clear hk1
  go_wp2_with fail
  go_quiet (fail)
  have HKd := hx ((Kept.refl [] w1).drewN nq)
  have HS2 := hx (HS1.out.kept HKd.out)
  have HK2 := hx (HK1.out.trans0 HKd.out)
  clear c3 c0 HKd
  generalize w1.drewN nq = w2 at *
  have c2 := HS2.out.hq.cell (i := 2) rfl
  have hf := HS2.out.hq.free
  go_upto_region 7 with fail
  have HN := hx (HS2.out.no1 (no + 1))
  clear c2 hf
  generalize w2.setCell ⟨q, 2, none⟩ (.int .i64 (no + 1)) = w3 at *
  have HS3 := hx HN.out.1
  have HT3 := hx ((KeptT.of HK2.out).trans HN.out.2)
  have c1 := HS3.out.hq.cell (i := 1) rfl
  have c2 := HS3.out.hq.cell (i := 2) rfl
  have d1 := (HS3.out.hq.alloc (.cells #[.int .u32 0, .int .i64 0, .int .i64 0] 78)).cell (i := 1) rfl
  have d2 := (HS3.out.hq.alloc (.cells #[.int .u32 0, .int .i64 0, .int .i64 0] 78)).cell (i := 2) rfl
  go_region
  have HS4 := hx (HS3.out.kept (((Kept.refl [] w3).alloc (.cells #[.int .u32 k, .int .i64 (now + ticks), .int .i64 (no + 1)] 78)).drew))
  have HE := hx (show q < w3.heap.size ∧ ∀ g, Value.ownBlock (.slice a h.length c) = some g → g < w3.heap.size from ⟨HS3.out.hq.lt, fun g hg => (HS3.out.own.lt g hg).2⟩)
  have HT4 := hx (HT3.out.trans (KeptT.of (((Kept.refl [] w3).alloc (.cells #[.int .u32 k, .int .i64 (now + ticks), .int .i64 (no + 1)] 78)).drew)))
  have B4 := hx ((Blk.new w3 [.int .u32 k, .int .i64 (now + ticks), .int .i64 (no + 1)] 78).drew)
  clear c1 c2 d1 d2 hsum
  generalize w3.heap.size = eb at *
  generalize (w3.alloc (.cells #[.int .u32 k, .int .i64 (now + ticks), .int .i64 (no + 1)] 78)).drew = w4 at *
  have c3 := HS4.out.hq.cell (i := 3) rfl
  have HD := hx (show Calls Try.prog 38 #[.slice a h.length c, .int .i64 i, .int .i64 ((i : Int) + 1)] w4 _ from by rw [HI1.out]; exact del_any _ h i (i + 1) w4 HS4.out.own (by omega) (by omega))
  have HLI := hx (show (h.eraseIdx i).length ≤ 1000000 by rw [List.length_eraseIdx]; split <;> omega)
  go_wp2_with fail
  refine HD.out.mono ?_
  rintro e w5 ⟨v', rfl, ho, hv, hk5⟩
  rw [take_drop_erase] at ho
  generalize h.eraseIdx i = L at *
  obtain ⟨a', c', rfl⟩ := own_slice ho
  have HB5 := hx (hk5.blk HS4.out.hq (by simp only [Option.mem_toList]; exact HS4.out.ne))
  have hBE := hk5.blk B4.out (by
    simp only [Option.mem_toList]
    intro e6
    have e7 := (HE.out).2 eb e6
    omega)
  have HO := hx (HS4.out.put hk5 ho (.inl hv))
  have BE := hx (hBE.set_ne (a := ⟨q, 3, none⟩) (by have := HE.out.1; simp; omega) (.slice a' L.length c'))
  have d3 := HB5.out.cell (i := 3) rfl
  have df := HB5.out.free
  clear hk5 ho hv c3 hBE
  go_upto_region 10 with fail
  have HS6 := hx HO.out.1
  have HT6 := hx (HT4.out.trans HO.out.2)
  clear d3 df HO
  generalize w5.setCell ⟨q, 3, none⟩ (.slice a' L.length c') = w6 at *
  have e0 := BE.out.cell (i := 0) rfl
  have e1 := BE.out.cell (i := 1) rfl
  have e2 := BE.out.cell (i := 2) rfl
  have hqf := HS6.out.hq.free
  have c3 := HS6.out.hq.cell (i := 3) rfl
  have d3 := (HS6.out.hq.alloc (.cells #[.int .u32 k, .int .i64 (now + ticks), .int .i64 (no + 1)] 78)).cell (i := 3) rfl
  have f0 := (BE.out.alloc (.cells #[.int .u32 k, .int .i64 (now + ticks), .int .i64 (no + 1)] 78)).cell (i := 0) rfl
  go_region_law ((refine step_app_at rfl (.tmp 68) (.tmp 70) 79 rfl 0 78 _ 3 24 infoEn Try.underlying79 rfl (by omega) (.slice a' L.length c') L.length (cel L) rfl (HS6.out.own.alloc _) ⟨w6.heap.size, 0, none⟩ 1 1 (enc3 ⟨k, now + ticks, no + 1⟩) rfl rfl (news3 w6 ⟨k, now + ticks, no + 1⟩ _) (one_enc3 _) (by have := HLI.out; unfold maxLen; omega) (by have := HLI.out; omega) (Nat.zero_le _) ?_; intro v2 w5 o5 g5 at5; have zz := HS6.out.q3 (by repeat (first | exact Kept.refl _ _ | apply Kept.drew | apply Kept.alloc)) g5; obtain ⟨z1, z2⟩ := zz; obtain ⟨gb, cb, ev⟩ := own_some3 o5; subst ev))
  all_goals
    have HA := hx (HS6.out.app (by repeat (first | exact Kept.refl _ _ | apply Kept.drew | apply Kept.alloc)) g5 o5 at5)
    clear z1 z2 g5 o5 at5
    go_wp2
    exact HQ.out _ _ (HT6.out.trans HA.out.2) HA.out.1
theorem tstart_any (q : Nat) (v : Value) (room now no k ticks : Int) (h : List En) (w : World) (s : Ts w q v room now no h) (hl : h.length ≤ 1000000) (hn0 : 0 ≤ no) (hn1 : no ≤ 1000000000) (hw0 : 0 ≤ now) (hw1 : now ≤ 1099511627776) :
    Calls Try.prog 23 #[.pointer (some ⟨q, 0, none⟩), .int .u32 k, .int .i64 ticks] w (StartP w q v room now no k ticks h) := by
  by_cases hb : ticks < 1 ∨ 1099511627776 < ticks
  · exact start_bad q v room now no k ticks h w s hb
  · have h1 : 1 ≤ ticks := by omega
    have h2 : ticks ≤ 1099511627776 := by omega
    cases hk : keyAt k h with
    | none =>
      by_cases hr : room ≤ (h.length : Int)
      · exact start_full q v room now no k ticks h w s h1 h2 hl hk hr
      · exact start_new q v room now no k ticks h w s h1 h2 hl hk (by omega) hn0 hn1 hw0 hw1
    | some i => exact start_old q v room now no k ticks h w s h1 h2 hl i hk hn0 hn1 hw0 hw1
end Go.Proofs.Yteobkcmfpmolmaa
