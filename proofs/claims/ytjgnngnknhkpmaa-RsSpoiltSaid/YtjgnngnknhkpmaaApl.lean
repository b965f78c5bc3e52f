/- Slices of slices of bytes; Apply. -/
import Derived.Test.YtjgnngnknhkpmaaRefW
namespace Go.Proofs.Ytjgnngnknhkpmaa
open Go Go.RowKit
/-- A slice of slices of bytes: what lies there. -/
def Cs (w : World) (a : Option Addr) (ls : List (List Nat)) : Prop := ∀ i, i < ls.length → ∃ b off ai ci, a = some ⟨b, off, none⟩ ∧ w.cell? ⟨b, off + i, none⟩ = some (.slice ai (rw ls i).length ci) ∧ Bn w ai (rw ls i)
theorem Cs.kept {w w2 : World} {a : Option Addr} {ls : List (List Nat)} (h : Cs w a ls) (hk : Kept [] w w2) : Cs w2 a ls := fun i hi => by
  obtain ⟨b, off, ai, ci, h1, h2, h3⟩ := h i hi
  exact ⟨b, off, ai, ci, h1, kept_cell hk h2, h3.kept hk⟩
theorem infoBs : (Try.prog.info? 39).map (fun i => (i.zero, i.size, i.bytes)) = some (some (.slice none 0 0), 1, 24) := by kernel_rfl
theorem makeS (n : Nat) (h : n ≤ 1000) (w : World) : (Instr.makeSlice 22 (.int .i64 (n : Int)) (.int .i64 (n : Int))).run Try.prog w = .ok (.slice (some ⟨w.heap.size, 0, none⟩) n n) (w.alloc (.cells (madeCells #[.slice none 0 0] n) 39)) := by
  obtain ⟨i0, hi, hz0, hz1, hz2⟩ := info_parts infoBs
  have hr := run_make (P := Try.prog) w 22 39 i0 (.slice none 0 0) Try.underlying22 hi hz0 .i64 .i64 n n (by omega) (by omega) (by rw [hz2]; omega) (by omega)
  rw [hz1] at hr
  simp only [Int.toNat_natCast, Nat.mul_one] at hr
  exact hr
def outC (r n : Nat) (gs : List Nat) : List Value := tab r fun j => if j < gs.length then .slice (some ⟨gs.getD j 0, 0, none⟩) n n else .slice none 0 0
theorem outC_0 (r n : Nat) : (madeCells #[.slice none 0 0] r).toList = outC r n [] := by
  rw [toList_madeCells_one]
  refine tab_eq (by simp) fun i hi => ?_
  rw [List.getElem?_replicate, if_pos hi, if_neg (by simp)]
theorem outC_step (r n : Nat) (gs : List Nat) (g : Nat) (h : gs.length < r) : (outC r n gs).set gs.length (.slice (some ⟨g, 0, none⟩) n n) = outC r n (gs ++ [g]) :=
  tab_set h (by simp [List.getD_eq_getElem?_getD]) fun j _ hj => by
    by_cases h1 : j < gs.length
    · rw [if_pos h1, if_pos (by simp; omega), List.getD_eq_getElem?_getD, List.getD_eq_getElem?_getD, List.getElem?_append_left h1]
    · rw [if_neg h1, if_neg (by simp; omega)]
/-- Behind i rows. -/
structure ApS (w wr : World) (O r n : Nat) (M ls : List (List Nat)) (bx : List Value) (gs : List Nat) : Prop where
  o : Blk wr O (outC r n gs) 39
  rows : ∀ j, j < gs.length → w.heap.size < gs.getD j 0 ∧ Blk wr (gs.getD j 0) ((mulRow n ls (rw M j) ls.length).map bn) 5
  bx : Blk wr w.heap.size bx 41
  k : Kept [] w wr
  lo : w.heap.size < O
theorem ApS.kept {w wr w2 : World} {O r n : Nat} {M ls : List (List Nat)} {bx : List Value} {gs : List Nat} (s : ApS w wr O r n M ls bx gs) (hk : Kept [] wr w2) : ApS w w2 O r n M ls bx gs :=
  ⟨hk.blk s.o (by simp), fun j hj => ⟨(s.rows j hj).1, hk.blk (s.rows j hj).2 (by simp)⟩, hk.blk s.bx (by simp), s.k.trans0 hk, s.lo⟩
/-- Within a row. -/
structure ApI (w wr : World) (O r n : Nat) (M ls : List (List Nat)) (bx : List Value) (gs : List Nat) (g k : Nat) : Prop where
  o : Blk wr O (outC r n (gs ++ [g])) 39
  rows : ∀ j, j < gs.length → w.heap.size < gs.getD j 0 ∧ gs.getD j 0 < g ∧ Blk wr (gs.getD j 0) ((mulRow n ls (rw M j) ls.length).map bn) 5
  row : Blk wr g ((mulRow n ls (rw M gs.length) k).map bn) 5
  bx : Blk wr w.heap.size bx 41
  k : Kept [] w wr
  lo : w.heap.size < O
  lg : O < g
theorem ApS.next {w wr : World} {O r n : Nat} {M ls : List (List Nat)} {bx : List Value} {gs : List Nat} (s : ApS w wr O r n M ls bx gs) (h : gs.length < r) :
    ApI w ((wr.alloc (.cells (madeCells #[.int .u8 0] n) 5)).setCell ⟨O, gs.length, none⟩ (.slice (some ⟨wr.heap.size, 0, none⟩) n n)) O r n M ls bx gs wr.heap.size 0 := by
  have h1 := s.o.lt
  have h2 := s.lo
  have hn := Blk.new' wr (madeCells #[.int .u8 0] n) 5
  rw [made_bn] at hn
  refine ⟨?_, fun j hj => ⟨(s.rows j hj).1, (s.rows j hj).2.lt, ((s.rows j hj).2.alloc _).set_ne ?_ _⟩, hn.set_ne (by simp; omega) _, (s.bx.alloc _).set_ne (by simp; omega) _, (s.k.alloc _).setCell (.inr (by simp; omega)) _, h2, h1⟩
  · rw [← outC_step r n gs wr.heap.size h]
    exact (s.o.alloc _).set _ _
  · intro e
    have h3 := (s.rows j hj).2
    simp only at e
    rw [e] at h3
    exact absurd (h3.ty s.o) (by decide)
theorem ApI.kept {w wr w2 : World} {O r n : Nat} {M ls : List (List Nat)} {bx : List Value} {gs : List Nat} {g k : Nat} (s : ApI w wr O r n M ls bx gs g k) (hk : Kept [] wr w2) : ApI w w2 O r n M ls bx gs g k :=
  ⟨hk.blk s.o (by simp), fun j hj => ⟨(s.rows j hj).1, (s.rows j hj).2.1, hk.blk (s.rows j hj).2.2 (by simp)⟩, hk.blk s.row (by simp), hk.blk s.bx (by simp), s.k.trans0 hk, s.lo, s.lg⟩
theorem ApI.mixed {w wr w2 : World} {O r n : Nat} {M ls : List (List Nat)} {bx : List Value} {gs : List Nat} {g k : Nat} (s : ApI w wr O r n M ls bx gs g k) {a : Nat} {y : List Nat} (ha : (rw M gs.length).getD k 0 = a) (hy : rw ls k = y)
    (hb : Blk w2 g (setAll ((mulRow n ls (rw M gs.length) k).map bn) 0 ((mixL a (mulRow n ls (rw M gs.length) k) y).map bn)) 5) (hl : (mulRow n ls (rw M gs.length) k).length = y.length) (hk : Kept [g] wr w2) : ApI w w2 O r n M ls bx gs g (k + 1) := by
  have h1 := s.lo
  have h2 := s.lg
  refine ⟨hk.blk s.o (by simp; omega), fun j hj => ⟨(s.rows j hj).1, (s.rows j hj).2.1, hk.blk (s.rows j hj).2.2 (by have h3 := (s.rows j hj).2.1; intro hm; rw [List.mem_singleton] at hm; omega)⟩, ?_, hk.blk s.bx (by simp; omega), s.k.trans hk (fun _ h => by simp at h) (fun x hx => by simp at hx; right; omega), h1, h2⟩
  rw [setAll_all _ _ (by rw [List.length_map, List.length_map, mixL_len _ _ _ hl])] at hb
  rw [mulRow, ha, hy]
  exact hb
theorem ApI.done {w wr : World} {O r n : Nat} {M ls : List (List Nat)} {bx : List Value} {gs : List Nat} {g : Nat} (s : ApI w wr O r n M ls bx gs g ls.length) : ApS w wr O r n M ls bx (gs ++ [g]) := by
  refine ⟨s.o, fun j hj => ?_, s.bx, s.k, s.lo⟩
  have h1 := s.lo
  have h2 := s.lg
  rw [List.length_append, List.length_singleton] at hj
  by_cases h : j < gs.length
  · rw [List.getD_eq_getElem?_getD, List.getElem?_append_left h, ← List.getD_eq_getElem?_getD]
    exact ⟨(s.rows j h).1, (s.rows j h).2.2⟩
  · obtain rfl : j = gs.length := by omega
    rw [List.getD_eq_getElem?_getD, List.getElem?_append_right (Nat.le_refl _), Nat.sub_self]
    exact ⟨show w.heap.size < g by omega, s.row⟩
theorem mul_rw (n : Nat) (M ls : List (List Nat)) {i : Nat} (hi : i < M.length) : rw (mulM n M ls) i = mulRow n ls (rw M i) ls.length := by
  unfold mulM
  rw [rw.eq_def, List.getD_eq_getElem?_getD, List.getElem?_map, getD_some [] hi]
  rfl
theorem bn_blk {w : World} {g : Nat} {l : List Nat} {T : TypeId} (h : Blk w g (l.map bn) T) : Bn w (some ⟨g, 0, none⟩) l := fun i hi => by
  refine ⟨g, 0, rfl, ?_⟩
  rw [Nat.zero_add, h.cell?_at, List.getElem?_map, getD_some 0 hi]
  rfl
theorem ApS.out {w wr : World} {O r n c : Nat} {M ls : List (List Nat)} {bx : List Value} {gs : List Nat} (s : ApS w wr O r n M ls bx gs) (hg : gs.length = r) (hM : M.length = r) (hl : Mt c n ls) : Cs wr (some ⟨O, 0, none⟩) (mulM n M ls) := fun i hi => by
  have hi2 : i < r := by rw [mulM, List.length_map, hM] at hi; exact hi
  have h1 : (mulRow n ls (rw M i) ls.length).length = n := (mulRow_ok hl _ ls.length (by rw [hl.rows]; exact Nat.le_refl _)).1
  refine ⟨O, 0, some ⟨gs.getD i 0, 0, none⟩, n, rfl, ?_, ?_⟩
  · rw [mul_rw n M ls (by omega), h1, Nat.zero_add]
    refine s.o.cell ?_
    rw [outC, tab_get hi2, if_pos (by omega)]
  · rw [mul_rw n M ls (by omega)]
    exact bn_blk (s.rows i (by omega)).2
/-- Each slice is just as long as it may be. -/
def Caps (w : World) (a : Option Addr) (r n : Nat) : Prop := ∀ i, i < r → ∃ O g, a = some ⟨O, 0, none⟩ ∧ w.cell? ⟨O, i, none⟩ = some (.slice (some ⟨g, 0, none⟩) n n)
theorem ApS.caps {w wr : World} {O r n : Nat} {M ls : List (List Nat)} {bx : List Value} {gs : List Nat} (s : ApS w wr O r n M ls bx gs) (hg : gs.length = r) : Caps wr (some ⟨O, 0, none⟩) r n := fun i hi => ⟨O, gs.getD i 0, rfl, s.o.cell (by rw [outC, tab_get hi, if_pos (by omega)])⟩
set_option maxRecDepth 100000 in
set_option maxHeartbeats 8000000 in
theorem apply_any2 (t b r c cap n c2 : Nat) (M ls : List (List Nat)) (rest : List Value) (a2 : Option Addr) (w : World) (hT : Blk w t (tabC 255) 73) (hb : Blk w b (cellsM M rest) 5) (hM : Mt r c M) (hr : r ≤ 255) (hc : c ≤ 255) (hc0 : 1 ≤ c) (hcap : r * c ≤ cap)
    (hl : Mt c n ls) (hn : n ≤ 100000) (hC : Cs w a2 ls) :
    Calls Try.prog 32 #[.pointer (some ⟨t, 0, none⟩), mv b r c cap, .slice a2 c c2] w fun e w' => ∃ a, e = .returned (.tuple #[.slice a r r, .int .i64 0]) ∧ (Cs w' a (mulM n M ls) ∧ Caps w' a r n) ∧ Kept [] w w' := by
  have hmk := makeS r (by omega)
  have hmn := makeU8 n (by omega)
  have HT := hx hT
  have HB := hx hb
  have HM := hx hM
  have HL := hx hl
  have HC := hx hC
  have HMR := hx (fun i k (hk : k ≤ c) => mulRow_ok hl (rw M i) k hk)
  have HLL := hx (fun k (hk : k < c) => (⟨hl.len hk, hl.rowOct hk⟩ : (rw ls k).length = n ∧ Oct (rw ls k)))
  have HRO := hx (fun i k (hi : i < r) => (hM.rowOct hi).at k)
  have HLR := hx hl.rows
  have HR := hx (fun w => right_any b r c cap w hr hc)
  have HW := hx (fun i w hi => row_any b r c cap i w hr hc hc0 hi hcap)
  have HTB := hx (And.intro hT.lt hb.lt)
  have B0 := hx (Blk.new w [.int .i64 (r : Int), .int .i64 (c : Int), .slice (some ⟨b, 0, none⟩) (r * c) cap] 41)
  have K0 := hx ((Kept.refl [] w).alloc (.cells #[.int .i64 (r : Int), .int .i64 (c : Int), .slice (some ⟨b, 0, none⟩) (r * c) cap] 41))
  have hri : (r : Int) ≤ 255 := by omega
  have hci : (c : Int) ≤ 255 := by omega
  have hni : (n : Int) ≤ 100000 := by omega
  unfold mv at *
  clear hT hb hM hl hC hcap
  go_enter Try.func32, Try.ntmps32
  go_wp2_with fail
  generalize w.alloc (.cells #[.int .i64 (r : Int), .int .i64 (c : Int), .slice (some ⟨b, 0, none⟩) (r * c) cap] 41) = W0 at *
  refine (HR.out W0).mono ?_
  rintro e w1 ⟨rfl, hk1⟩
  have B1 := hx (hk1.blk B0.out (by simp))
  have K1 := hx (K0.out.trans0 hk1)
  clear hk1 B0 K0 HR
  have c1 := B1.out.cell (i := 1) rfl
  have hcc : ((c : Int) != (c : Int)) = false := by simp
  go_wp2_with fail
  go_loopw [8, 27] (fun nv iv wr => ∃ i : Nat, i ≤ c ∧ iv = .int .i64 i ∧ nv = .int .i64 (if i = 0 then 0 else n : Nat) ∧ w1 = wr) (fun _ iv _ => c - (intOf iv).toNat)
  case atStart => exact ⟨0, by omega, rfl, rfl, rfl⟩
  case round =>
    obtain ⟨i, hi, rfl, rfl, rfl⟩ := hrel
    by_cases hlt : i < c
    · have hj : (i : Int) < (c : Int) := by omega
      obtain ⟨bd, od, ai, ci, rfl, hcd, _⟩ := HC.out i (by rw [HLR.out]; exact hlt)
      have hcd2 := kept_cell K1.out hcd
      rw [(HLL.out i hlt).1] at hcd2
      clear hcd
      by_cases h0 : i = 0
      · have h0i : ¬ (0 : Int) < (i : Int) := by omega
        rw [if_pos h0]
        have HN := hx (show (if i + 1 = 0 then 0 else n) = n from if_neg (by omega))
        clear h0
        go_wp2_with fail
        go_roundw
        case rel => exact ⟨i + 1, by omega, by go_num, by rw [HN.out], trivial⟩
        case measure => simp [intOf] <;> omega
      · have h0i : (0 : Int) < (i : Int) := by omega
        have hnn : ((n : Int) != (n : Int)) = false := by simp
        rw [if_neg h0]
        have HN := hx (show (if i + 1 = 0 then 0 else n) = n from if_neg (by omega))
        clear h0
        go_wp2_with fail
        go_roundw
        case rel => exact ⟨i + 1, by omega, by go_num, by rw [HN.out], trivial⟩
        case measure => simp [intOf] <;> omega
    · obtain rfl : i = c := by omega
      rw [if_neg (by omega)]
      have c0 := B1.out.cell (i := 0) rfl
      have HS0 := hx (show ApS w (w1.alloc (.cells (madeCells #[.slice none 0 0] r) 39)) w1.heap.size r n M ls [.int .i64 (r : Int), .int .i64 (i : Int), .slice (some ⟨b, 0, none⟩) (r * i) cap] [] from
        ⟨by have h := Blk.new' w1 (madeCells #[.slice none 0 0] r) 39
            rw [outC_0 r n] at h
            exact h, fun j hj => absurd hj (by simp), B1.out.alloc _, K1.out.alloc _, B1.out.lt⟩)
      go_upto_region 12 with fail
      clear hmk
      generalize w1.heap.size = O at *
      generalize w1.alloc (.cells (madeCells #[.slice none 0 0] r) 39) = w4 at *
      clear B1 K1 c0 c1
      go_wp2_with fail
      go_loopw [48] (fun iv wr => ∃ q : Nat, q ≤ r ∧ iv = .int .i64 q ∧ ∃ gs : List Nat, gs.length = q ∧ ApS w wr O r n M ls [.int .i64 (r : Int), .int .i64 (i : Int), .slice (some ⟨b, 0, none⟩) (r * i) cap] gs) (fun iv _ => r - (intOf iv).toNat)
      case atStart => exact ⟨0, by omega, rfl, [], rfl, HS0.out⟩
      case round =>
        clear HS0
        obtain ⟨q, hq, rfl, gs, hgs, hs⟩ := hrel
        have HS := hx hs
        have HGS := hx hgs
        clear hs hgs
        by_cases hlq : q < r
        · have hjq : (q : Int) < (r : Int) := by omega
          have HI := hx (HS.out.next (by rw [HGS.out]; exact hlq))
          rw [HGS.out] at HI
          have f1 := HS.out.o.free
          have there := (HS.out.o.alloc (.cells (madeCells #[.int .u8 0] n) 5)).cell (i := q) (v := _) (tab_get hlq)
          have f2 := (HS.out.o.alloc (.cells (madeCells #[.int .u8 0] n) 5)).free
          clear HS f1
          go_upto_region 16 with fail
          clear there f2
          generalize wr.heap.size = g at *
          generalize (wr.alloc (.cells (madeCells #[.int .u8 0] n) 5)).setCell ⟨O, q, none⟩ (.slice (some ⟨g, 0, none⟩) n n) = w5 at *
          have c0 := HI.out.bx.cell (i := 0) rfl
          have c1 := HI.out.bx.cell (i := 1) rfl
          have c2 := HI.out.bx.cell (i := 2) rfl
          go_wp2_with fail
          refine (HW.out q w5 hlq).mono ?_
          rintro e w6 ⟨rfl, hk6⟩
          have HI6 := hx (HI.out.kept hk6)
          clear hk6 HI c0 c1 c2
          go_wp2_with fail
          go_loopw [60] (fun kv wr => ∃ k : Nat, k ≤ i ∧ kv = .int .i64 k ∧ ApI w wr O r n M ls [.int .i64 (r : Int), .int .i64 (i : Int), .slice (some ⟨b, 0, none⟩) (r * i) cap] gs g k) (fun kv _ => i - (intOf kv).toNat)
          case atStart => exact ⟨0, by omega, rfl, HI6.out⟩
          case round =>
            clear HI6
            obtain ⟨k, hk, rfl, hs⟩ := hrel
            have HS := hx hs
            clear hs
            by_cases hlk : k < i
            · have hjk : (k : Int) < (i : Int) := by omega
              have cra := row_cells (HS.out.k.blk HB.out (by simp)) HM.out hlq k hlk
              have hx8 := HRO.out q k hlq
              unfold bn at cra
              have HMR2 := hx (HMR.out q k (by omega))
              have HLK := hx (HLL.out k hlk)
              obtain ⟨bd, od, ai, ci, ha2, hcd, hbn⟩ := HC.out k (by rw [HLR.out]; exact hlk)
              subst ha2
              have HLT := hx (fun b2 o2 (e : ai = some ⟨b2, o2, none⟩) => show b2 ≠ g ∨ o2 + n ≤ 0 ∨ 0 + n ≤ o2 by
                by_cases hn0 : n = 0
                · right; right
                  omega
                · obtain ⟨b3, o3, h3, h4⟩ := hbn 0 (by rw [HLK.out.1]; omega)
                  rw [e] at h3
                  simp only [Option.some.injEq, Addr.mk.injEq, and_true] at h3
                  have h5 := block_lt_of_cell h4
                  have h6 := HS.out.lo
                  have h7 := HS.out.lg
                  simp only at h5
                  left
                  omega)
              have hcd2 := kept_cell HS.out.k hcd
              rw [HLK.out.1] at hcd2
              have cO := HS.out.o.cell (i := q) (v := .slice (some ⟨g, 0, none⟩) n n) (by rw [outC, tab_get hlq, if_pos (by rw [List.length_append, HGS.out, List.length_singleton]; omega), List.getD_eq_getElem?_getD, List.getElem?_append_right (by rw [HGS.out]; exact Nat.le_refl _), HGS.out, Nat.sub_self]; rfl)
              have HMX := hx (fun w9 (hk : Kept [] wr w9) => mix_any t ((rw M q).getD k 0) g 0 n n ci ai ((mulRow n ls (rw M q) k).map bn) (mulRow n ls (rw M q) k) (rw ls k) w9 (hk.blk (HS.out.k.blk HT.out (by simp)) (by simp)) hx8 (by have h := HS.out.row; rw [HGS.out] at h; exact hk.blk h (by simp)) HMR2.out.1 HLK.out.1 HMR2.out.2 HLK.out.2
                (fun i hi => by rw [Nat.zero_add, List.getElem?_map, getD_some 0 (by rw [HMR2.out.1]; exact hi)]; rfl) (hbn.kept (HS.out.k.trans0 hk)) HLT.out (by have h1 := HTB.out.1; have h2 := HS.out.lo; have h3 := HS.out.lg; omega) hn)
              have HNX := hx (fun w9 w2 (hk : Kept [] wr w9) hb (hk2 : Kept [g] w9 w2) => (HS.out.kept hk).mixed (w2 := w2) (a := (rw M q).getD k 0) (y := rw ls k) (by rw [HGS.out]) rfl (by rw [HGS.out]; exact hb) (by rw [HGS.out, HMR2.out.1, HLK.out.1]) hk2)
              generalize (rw M q).getD k 0 = x at *
              have hkd : Kept [] wr wr.drew := (Kept.refl [] wr).drew
              have d1 := kept_cell hkd hcd2
              have d2 := kept_cell hkd cO
              have d3 := kept_cell hkd cra
              clear hbn hcd
              go_upto_region 19 with fail
              go_region_with (go_at_call 51; refine (HMX.out _ (by assumption)).mono ?_; rintro e w9 ⟨rfl, hb9, hk9⟩; have HI9 := hx (HNX.out _ _ (by assumption) hb9 hk9); clear hb9 hk9)
              all_goals
                go_wp2_with fail
                go_roundw
                case rel => exact ⟨k + 1, by omega, by go_num, HI9.out⟩
                case measure => simp [intOf] <;> omega
            · obtain rfl : k = i := by omega
              have HD := hx (show ApS w wr O r n M ls [.int .i64 (r : Int), .int .i64 (k : Int), .slice (some ⟨b, 0, none⟩) (r * k) cap] (gs ++ [g]) from ApI.done (by rw [HLR.out]; exact HS.out))
              have HG2 := hx (show (gs ++ [g]).length = q + 1 by rw [List.length_append, HGS.out]; rfl)
              go_wp2_with fail
              go_roundw
              case rel => exact ⟨q + 1, by omega, by go_num, _, HG2.out, HD.out⟩
              case measure => simp [intOf] <;> omega
        · obtain rfl : q = r := by omega
          go_wp2_with fail
          go_ret2
          exact ⟨_, rfl, ⟨HS.out.out HGS.out HM.out.rows HL.out, HS.out.caps HGS.out⟩, HS.out.k⟩
theorem apply_any (t b r c cap n c2 : Nat) (M ls : List (List Nat)) (rest : List Value) (a2 : Option Addr) (w : World) (hT : Blk w t (tabC 255) 73) (hb : Blk w b (cellsM M rest) 5) (hM : Mt r c M) (hr : r ≤ 255) (hc : c ≤ 255) (hc0 : 1 ≤ c) (hcap : r * c ≤ cap)
    (hl : Mt c n ls) (hn : n ≤ 100000) (hC : Cs w a2 ls) :
    Calls Try.prog 32 #[.pointer (some ⟨t, 0, none⟩), mv b r c cap, .slice a2 c c2] w fun e w' => ∃ a, e = .returned (.tuple #[.slice a r r, .int .i64 0]) ∧ Cs w' a (mulM n M ls) ∧ Kept [] w w' :=
  (apply_any2 t b r c cap n c2 M ls rest a2 w hT hb hM hr hc hc0 hcap hl hn hC).mono fun _ _ ⟨a, h1, h2, h3⟩ => ⟨a, h1, h2.1, h3⟩
end Go.Proofs.Ytjgnngnknhkpmaa
