/- Datagrams: may one be? -/
import Derived.Test.YtgdofgckjkmhjaaRow
import Derived.Test.YtgdofgckjkmhjaaApp
import Derived.Handy
import Derived.LoopTactic
import Derived.Outline
import Derived.BigQuiet
import Derived.Deep.RegionHeld3
import Derived.Deep.DeepCutAuto
import Derived.Lib.Hide
import Derived.StillTailTactics
import Derived.BigGuardPart
namespace Go.Proofs.Ytgdofgckjkmhjaa
open Go Go.RowKit
/-- A datagram, its data apart. -/
structure Dg where
  kind : Int
  sess : Nat
  seq : Nat
  path : Int
  tick : Nat
  a : Nat
  b : Nat
  k : Int
  m : Int
  index : Int
  data : List UInt8
def dgl (d : Dg) (p : Option Addr) (c : Nat) : List Value :=
  [.int .i64 d.kind, .int .u32 d.sess, .int .u32 d.seq, .int .i64 d.path, .int .u32 d.tick, .int .u32 d.a, .int .u32 d.b, .int .i64 d.k, .int .i64 d.m, .int .i64 d.index, .slice p d.data.length c]
def shardP (d : Dg) : Prop := 1 ≤ d.k ∧ d.k ≤ 16 ∧ 0 ≤ d.m ∧ d.m ≤ 16 ∧ 1 ≤ d.data.length ∧ d.data.length ≤ 1200 ∧ (d.kind = 2 → 0 ≤ d.index ∧ d.index < d.k) ∧ (¬ d.kind = 2 → d.k ≤ d.index ∧ d.index < d.k + d.m)
instance (d : Dg) : Decidable (shardP d) := by unfold shardP; infer_instance
def shardB (d : Dg) : Bool := decide (shardP d)
structure DgFits (d : Dg) : Prop where
  kind : -9223372036854775808 ≤ d.kind ∧ d.kind ≤ 9223372036854775807
  path : -9223372036854775808 ≤ d.path ∧ d.path ≤ 9223372036854775807
  sess : d.sess < 4294967296
  seq : d.seq < 4294967296
  tick : d.tick < 4294967296
  a : d.a < 4294967296
  b : d.b < 4294967296
set_option maxRecDepth 100000 in
set_option maxHeartbeats 1600000 in
theorem shard_any (d : Dg) (p : Option Addr) (c : Nat) (w : World) :
    Calls Try.prog 38 #[.agg (dgl d p c).toArray] w fun e w' => e = .returned (.bool (shardB d)) ∧ Kept [] w w' := by
  have hb := Blk.new w (dgl d p c) 34
  have c0 := hb.cell (show (dgl d p c)[0]? = some (.int .i64 d.kind) from rfl)
  have c7 := hb.cell (show (dgl d p c)[7]? = some (.int .i64 d.k) from rfl)
  have c8 := hb.cell (show (dgl d p c)[8]? = some (.int .i64 d.m) from rfl)
  have c9 := hb.cell (show (dgl d p c)[9]? = some (.int .i64 d.index) from rfl)
  have c10 := hb.cell (show (dgl d p c)[10]? = some (.slice p d.data.length c) from rfl)
  clear hb
  go_enter Try.func38, Try.ntmps38
  go_wp2
  all_goals
    try simp only [beq_iff_eq] at *
    try simp only [beq_eq_false_iff_ne] at *
    go_ret
    refine ⟨ret_bool ?_, (Kept.refl _ _).alloc _⟩
    unfold shardB
    first | exact (decide_eq_false (by unfold shardP; omega)).symm | exact decide_eq_decide.2 (by unfold shardP; omega)
def zeroB (a b c : Int) : Bool := decide (a = 0 ∧ b = 0 ∧ c = 0)
set_option maxHeartbeats 800000 in
theorem zero_any (a b c : Int) (g : Nat) (w : World) (hb : Blk w g [.int .i64 a, .int .i64 b, .int .i64 c] 3) :
    Calls Try.prog 39 #[.slice (some ⟨g, 0, none⟩) 3 3] w fun e w' => e = .returned (.bool (zeroB a b c)) ∧ w = w' := by
  have c0 := hb.cell (i := 0) rfl
  have c1 := hb.cell (i := 1) rfl
  have c2 := hb.cell (i := 2) rfl
  clear hb
  go_enter Try.func39, Try.ntmps39
  go_wp2
  go_rounds 4
  all_goals
    try simp only [bne_iff_ne] at *
    try simp only [bne_eq_false_iff_eq] at *
    go_ret
    refine ⟨ret_bool ?_, rfl⟩
    unfold zeroB
    first | exact (decide_eq_false (by omega)).symm | exact (decide_eq_true (by omega)).symm
def missP (l : List UInt8) : Prop := 1 ≤ l.length ∧ l.length ≤ 32 ∧ ∀ i, (h : i < l.length) → l[i].toNat < 32 ∧ (0 < i → l[i - 1].toNat < l[i].toNat)
instance (l : List UInt8) : Decidable (missP l) := by unfold missP; infer_instance
def missB (l : List UInt8) : Bool := decide (missP l)
set_option maxHeartbeats 800000 in
theorem missing_any (a : Option Addr) (n c : Nat) (l : List UInt8) (w : World) (hl : Bts w a n c l) :
    Calls Try.prog 40 #[.slice a n c] w fun e w' => e = .returned (.bool (missB l)) ∧ w = w' := by
  have hle := hl.hle
  have htop := hl.htop
  obtain rfl := hl.hlen
  unfold maxLen at htop
  by_cases h1 : 1 ≤ l.length ∧ l.length ≤ 32
  · obtain ⟨h1, h2⟩ := h1
    have g1 : decide ((l.length : Int) < 1) = false := by simp; omega
    have g2 : ¬ (32 : Int) < (l.length : Int) := by omega
    go_enter Try.func40, Try.ntmps40
    go_wp2
    go_loop [15] (fun i => ∃ k : Nat, k ≤ l.length ∧ i = .int .i64 k ∧ ∀ j, (h : j < l.length) → j < k → l[j].toNat < 32 ∧ (0 < j → l[j - 1].toNat < l[j].toNat)) (fun i => l.length - (intOf i).toNat)
    case atStart => exact ⟨0, Nat.zero_le _, rfl, fun j _ h => absurd h (Nat.not_lt_zero _)⟩
    case round =>
      obtain ⟨k, hk, rfl, hall⟩ := hrel
      have hall' := Lib.hid hall
      clear hall
      by_cases hlt : k < l.length
      · obtain ⟨b, off, rfl⟩ := hl.some (by omega)
        have hc := hl.at k hlt
        have hx := l[k].toNat_lt
        by_cases hk0 : k = 0
        · subst hk0
          rw [Nat.add_zero] at hc
          go_wp2
          · go_ret
            exact ⟨ret_bool (decide_eq_false (fun h => by have := (h.2.2 0 hlt).1; omega)).symm, rfl⟩
          · go_round
            case rel => exact ⟨1, by omega, rfl, fun j hj h => (by
              obtain rfl : j = 0 := by omega
              exact ⟨by omega, fun h => absurd h (Nat.lt_irrefl _)⟩)⟩
            case measure => simp [intOf] <;> omega
        · obtain ⟨q, rfl⟩ : ∃ q, k = q + 1 := ⟨k - 1, by omega⟩
          have hq : q < l.length := by omega
          have hcq := hl.at q hq
          have e1 : ((q + 1 : Nat) : Int) - 1 = (q : Int) := by omega
          go_wp2
          · go_ret
            exact ⟨ret_bool (decide_eq_false (fun h => by have := (h.2.2 (q + 1) hlt).1; omega)).symm, rfl⟩
          · go_ret
            exact ⟨ret_bool (decide_eq_false (fun h => by have := (h.2.2 (q + 1) hlt).2 (by omega); simp only [Nat.add_sub_cancel] at this; omega)).symm, rfl⟩
          · go_round
            case rel => exact ⟨q + 1 + 1, by omega, by go_num, fun j hj h => by
              by_cases hjq : j = q + 1
              · subst hjq; exact ⟨by omega, fun _ => by simp only [Nat.add_sub_cancel]; omega⟩
              · exact hall'.out j hj (by omega)⟩
            case measure => simp [intOf] <;> omega
      · obtain rfl : k = l.length := by omega
        go_wp2
        go_ret
        exact ⟨ret_bool (decide_eq_true ⟨h1, h2, fun i h => hall'.out i h h⟩).symm, rfl⟩
  · have hres := Lib.hid (show missB l = false from decide_eq_false (fun h => h1 ⟨h.1, h.2.1⟩))
    by_cases h2 : l.length < 1
    · have g1 : decide ((l.length : Int) < 1) = true := by simp; omega
      clear h1
      go_enter Try.func40, Try.ntmps40
      go_wp2
      all_goals
        go_ret
        exact ⟨by rw [hres.out]; rfl, rfl⟩
    · have g1 : decide ((l.length : Int) < 1) = false := by simp; omega
      have g2 : (32 : Int) < (l.length : Int) := by omega
      clear h1
      go_enter Try.func40, Try.ntmps40
      go_wp2
      go_ret
      exact ⟨by rw [hres.out]; rfl, rfl⟩
/-- Are the fields as the kind wants them? -/
def formP (d : Dg) : Prop :=
  if d.kind = 2 ∨ d.kind = 3 then shardP d
  else (d.k = 0 ∧ d.m = 0 ∧ d.index = 0) ∧ (if d.kind = 4 then d.b = 0 ∧ missP d.data else if d.kind = 5 then d.data.length = 4 else if d.kind = 7 then d.data.length = 0 ∧ d.a = 0 ∧ d.b = 0 else if d.kind = 8 then d.data.length = 0 ∧ d.b = 0 else d.data.length = 0)
instance (d : Dg) : Decidable (formP d) := by unfold formP; infer_instance
def formB (d : Dg) : Bool := decide (formP d)
set_option maxRecDepth 100000 in
set_option maxHeartbeats 3200000 in
theorem form_any (d : Dg) (p : Option Addr) (n c : Nat) (w : World) (hd : Bts w p n c d.data) :
    Calls Try.prog 26 #[.agg (dgl d p c).toArray] w fun e w' => e = .returned (.bool (formB d)) ∧ Kept [] w w' := by
  have hb := Blk.new w (dgl d p c) 34
  have c0 := hb.cell (show (dgl d p c)[0]? = some (.int .i64 d.kind) from rfl)
  have c5 := hb.cell (show (dgl d p c)[5]? = some (.int .u32 d.a) from rfl)
  have c6 := hb.cell (show (dgl d p c)[6]? = some (.int .u32 d.b) from rfl)
  have c7 := hb.cell (show (dgl d p c)[7]? = some (.int .i64 d.k) from rfl)
  have c8 := hb.cell (show (dgl d p c)[8]? = some (.int .i64 d.m) from rfl)
  have c9 := hb.cell (show (dgl d p c)[9]? = some (.int .i64 d.index) from rfl)
  have c10 := hb.cell (show (dgl d p c)[10]? = some (.slice p d.data.length c) from rfl)
  obtain rfl := hd.hlen
  by_cases h23 : d.kind = 2 ∨ d.kind = 3
  · have hf := Lib.hid (show formB d = shardB d by unfold formB shardB; exact decide_eq_decide.2 (by unfold formP; rw [if_pos h23]))
    have g : (d.kind == 2) = true ∨ ((d.kind == 2) = false ∧ (d.kind == 3) = true) := by simp; omega
    clear h23
    rcases g with g | ⟨g, g2⟩
    all_goals
      go_enter Try.func26, Try.ntmps26
      go_wp2_with (refine load_blk rfl 34 (.tmp 1) rfl w.heap.size rfl 34 (dgl d p c) _ hb Try.underlying34 rfl (by kernel_rfl) ?_)
      refine (shard_any d p c _).mono ?_
      rintro e w1 ⟨rfl, hk⟩
      go_wp2
      go_ret
      exact ⟨by rw [hf.out]; rfl, ((Kept.refl _ _).alloc _).trans0 hk⟩
  · have g : (d.kind == 2) = false := by simp; omega
    have g2 : (d.kind == 3) = false := by simp; omega
    have hb3 := fun w1 : World => Blk.new w1 [.int .i64 d.k, .int .i64 d.m, .int .i64 d.index] 3
    have hbs := hb3 (w.alloc (.cells (dgl d p c).toArray 34))
    rw [World.size_alloc] at hbs
    have d0 := hb.alloc (.cells #[.int .i64 d.k, .int .i64 d.m, .int .i64 d.index] 3)
    have e0 := d0.cell (show (dgl d p c)[0]? = some (.int .i64 d.kind) from rfl)
    have e5 := d0.cell (show (dgl d p c)[5]? = some (.int .u32 d.a) from rfl)
    have e6 := d0.cell (show (dgl d p c)[6]? = some (.int .u32 d.b) from rfl)
    have e10 := d0.cell (show (dgl d p c)[10]? = some (.slice p d.data.length c) from rfl)
    clear hb3
    by_cases hz0 : d.k = 0 ∧ d.m = 0 ∧ d.index = 0
    · have hz := Lib.hid (show zeroB d.k d.m d.index = true from decide_eq_true hz0)
      rcases (show d.kind = 4 ∨ d.kind = 5 ∨ d.kind = 7 ∨ d.kind = 8 ∨ (¬ d.kind = 4 ∧ ¬ d.kind = 5 ∧ ¬ d.kind = 7 ∧ ¬ d.kind = 8) by omega) with h | h | h | h | ⟨h4, h5, h7, h8⟩
      · have hf : Hid (formB d = decide (d.b = 0 ∧ missP d.data)) := decide_eq_decide.2 (by
          unfold formP
          rw [if_neg h23, if_pos h]
          simp [hz0])
        have k4 : (d.kind == 4) = true := by simp; omega
        clear h
        have hhz := Lib.hid hz0
        clear h23 hz0
        go_enter Try.func26, Try.ntmps26
        go_wp2_with fail
        refine (zero_any d.k d.m d.index (w.heap.size + 1) _ hbs).mono ?_
        rintro e w1 ⟨rfl, rfl⟩
        rw [hz.out]
        by_cases hb0 : d.b = 0
        · have b1 : ((d.b : Int) == 0) = true := by simp; omega
          have hm := Lib.hid (show decide (d.b = 0 ∧ missP d.data) = missB d.data from decide_eq_decide.2 (by simp [hb0]))
          clear hb0
          go_wp2_with fail
          refine (missing_any p _ c d.data _ (hd.kept (by repeat (first | exact Kept.refl _ _ | apply Kept.drew | apply Kept.alloc)))).mono ?_
          rintro e w1 ⟨rfl, rfl⟩
          go_wp2
          go_ret
          exact ⟨by rw [hf.out, hm.out]; rfl, by repeat (first | exact Kept.refl _ _ | apply Kept.drew | apply Kept.alloc)⟩
        · have b1 : ((d.b : Int) == 0) = false := by simp; omega
          have hm := Lib.hid (show decide (d.b = 0 ∧ missP d.data) = false from decide_eq_false (fun h => hb0 h.1))
          clear hb0
          go_wp2
          go_ret
          exact ⟨by rw [hf.out, hm.out]; rfl, by repeat (first | exact Kept.refl _ _ | apply Kept.drew | apply Kept.alloc)⟩
      · have hf : Hid (formB d = decide (d.data.length = 4)) := decide_eq_decide.2 (by
          unfold formP
          rw [if_neg h23, if_neg (by omega), if_pos h]
          simp [hz0])
        have k4 : (d.kind == 4) = false := by simp; omega
        have k5 : (d.kind == 5) = true := by simp; omega
        clear h
        have hhz := Lib.hid hz0
        clear h23 hz0
        go_enter Try.func26, Try.ntmps26
        go_wp2_with fail
        refine (zero_any d.k d.m d.index (w.heap.size + 1) _ hbs).mono ?_
        rintro e w1 ⟨rfl, rfl⟩
        rw [hz.out]
        go_wp2
        all_goals
          try simp only [beq_iff_eq] at *
          try simp only [beq_eq_false_iff_ne] at *
          go_ret
          refine ⟨ret_bool ?_, by repeat (first | exact Kept.refl _ _ | apply Kept.drew | apply Kept.alloc)⟩
          rw [hf.out]
          first | exact (decide_eq_false (by omega)).symm | exact (decide_eq_true (by omega)).symm | (rw [Bool.eq_iff_iff]; simp only [decide_eq_true_eq]; simp only [beq_iff_eq]; omega)
      · have hf : Hid (formB d = decide (d.data.length = 0 ∧ d.a = 0 ∧ d.b = 0)) := decide_eq_decide.2 (by
          unfold formP
          rw [if_neg h23, if_neg (by omega), if_neg (by omega), if_pos h]
          simp [hz0])
        have k4 : (d.kind == 4) = false := by simp; omega
        have k5 : (d.kind == 5) = false := by simp; omega
        have k7 : (d.kind == 7) = true := by simp; omega
        clear h
        have hhz := Lib.hid hz0
        clear h23 hz0
        go_enter Try.func26, Try.ntmps26
        go_wp2_with fail
        refine (zero_any d.k d.m d.index (w.heap.size + 1) _ hbs).mono ?_
        rintro e w1 ⟨rfl, rfl⟩
        rw [hz.out]
        go_wp2
        all_goals
          try simp only [beq_iff_eq] at *
          try simp only [beq_eq_false_iff_ne] at *
          go_ret
          refine ⟨ret_bool ?_, by repeat (first | exact Kept.refl _ _ | apply Kept.drew | apply Kept.alloc)⟩
          rw [hf.out]
          first | exact (decide_eq_false (by omega)).symm | exact (decide_eq_true (by omega)).symm | (rw [Bool.eq_iff_iff]; simp only [decide_eq_true_eq]; simp only [beq_iff_eq]; omega)
      · have hf : Hid (formB d = decide (d.data.length = 0 ∧ d.b = 0)) := decide_eq_decide.2 (by
          unfold formP
          rw [if_neg h23, if_neg (by omega), if_neg (by omega), if_neg (by omega), if_pos h]
          simp [hz0])
        have k4 : (d.kind == 4) = false := by simp; omega
        have k5 : (d.kind == 5) = false := by simp; omega
        have k7 : (d.kind == 7) = false := by simp; omega
        have k8 : (d.kind == 8) = true := by simp; omega
        clear h
        have hhz := Lib.hid hz0
        clear h23 hz0
        go_enter Try.func26, Try.ntmps26
        go_wp2_with fail
        refine (zero_any d.k d.m d.index (w.heap.size + 1) _ hbs).mono ?_
        rintro e w1 ⟨rfl, rfl⟩
        rw [hz.out]
        go_wp2
        all_goals
          try simp only [beq_iff_eq] at *
          try simp only [beq_eq_false_iff_ne] at *
          go_ret
          refine ⟨ret_bool ?_, by repeat (first | exact Kept.refl _ _ | apply Kept.drew | apply Kept.alloc)⟩
          rw [hf.out]
          first | exact (decide_eq_false (by omega)).symm | exact (decide_eq_true (by omega)).symm | (rw [Bool.eq_iff_iff]; simp only [decide_eq_true_eq]; simp only [beq_iff_eq]; omega)
      · have hf : Hid (formB d = decide (d.data.length = 0)) := decide_eq_decide.2 (by
          unfold formP
          rw [if_neg h23, if_neg h4, if_neg h5, if_neg h7, if_neg h8]
          simp [hz0])
        have k4 : (d.kind == 4) = false := by simp; omega
        have k5 : (d.kind == 5) = false := by simp; omega
        have k7 : (d.kind == 7) = false := by simp; omega
        have k8 : (d.kind == 8) = false := by simp; omega
        clear h4 h5 h7 h8
        have hhz := Lib.hid hz0
        clear h23 hz0
        go_enter Try.func26, Try.ntmps26
        go_wp2_with fail
        refine (zero_any d.k d.m d.index (w.heap.size + 1) _ hbs).mono ?_
        rintro e w1 ⟨rfl, rfl⟩
        rw [hz.out]
        go_wp2
        all_goals
          try simp only [beq_iff_eq] at *
          try simp only [beq_eq_false_iff_ne] at *
          go_ret
          refine ⟨ret_bool ?_, by repeat (first | exact Kept.refl _ _ | apply Kept.drew | apply Kept.alloc)⟩
          rw [hf.out]
          first | exact (decide_eq_false (by omega)).symm | exact (decide_eq_true (by omega)).symm | (rw [Bool.eq_iff_iff]; simp only [decide_eq_true_eq]; simp only [beq_iff_eq]; omega)
    · have hz := Lib.hid (show zeroB d.k d.m d.index = false from decide_eq_false hz0)
      have hf := Lib.hid (show formB d = false from decide_eq_false (by unfold formP; rw [if_neg h23]; exact fun h => hz0 h.1))
      clear h23 hz0
      go_enter Try.func26, Try.ntmps26
      go_wp2_with fail
      refine (zero_any d.k d.m d.index (w.heap.size + 1) _ hbs).mono ?_
      rintro e w1 ⟨rfl, rfl⟩
      rw [hz.out]
      go_wp2
      go_ret
      exact ⟨by rw [hf.out]; rfl, by repeat (first | exact Kept.refl _ _ | apply Kept.drew | apply Kept.alloc)⟩
def chk (d : Dg) : Int := if d.kind < 1 ∨ 8 < d.kind then 72 else if d.path < 0 ∨ 2 ≤ d.path ∨ formB d = false then 73 else 0
theorem load_dg {w : World} {ops : Array Oper} {rest : List Oper} {o : Oper} {a : Act} {Q : Exit → Act → World → Prop} (hgd : o.guard = none) (x : Operand) (ho : o.op = .load 34 x)
    (g : Nat) (hx : a.eval x = .pointer (some ⟨g, 0, none⟩)) (d : Dg) (p : Option Addr) (c : Nat) (hb : Blk w g (dgl d p c) 34) (h : wpList Try.prog ops Q rest (a.put o.dst (.agg (dgl d p c).toArray)) w) : wpList Try.prog ops Q (o :: rest) a w :=
  load_blk hgd 34 x ho g hx 34 _ _ hb Try.underlying34 rfl (by kernel_rfl) h
theorem exec_Dg (w : World) (ev : Operand → Value) (dst : Option Tmp) (x : Operand) (t2 : TypeId) (pos : String) (af : Array Edge) (g : Option (Nat × Bool)) (h : goodPtr w 11 (ev x) = true) :
    (execOp ev { dst := dst, op := .load 34 x, type := t2, pos := pos, after := af, guard := g }).run Try.prog w = .ok (.value (.agg (rowAt w (ev x)))) w :=
  exec_row 34 11 _ Try.underlying34 rfl (by kernel_rfl) ev _ x rfl h
attribute [local go_sem ↓] exec_Dg
attribute [local go_sem] goodPtr_at rowAt_at
set_option maxRecDepth 100000 in
set_option maxHeartbeats 3200000 in
theorem check_any (d : Dg) (p : Option Addr) (n c : Nat) (w : World) (hd : Bts w p n c d.data) :
    Calls Try.prog 11 #[.agg (dgl d p c).toArray] w fun e w' => e = .returned (.int .i64 (chk d)) ∧ Kept [] w w' := by
  obtain rfl := hd.hlen
  have hb := Blk.new w (dgl d p c) 34
  have c0 := hb.cell (show (dgl d p c)[0]? = some (.int .i64 d.kind) from rfl)
  have c3 := hb.cell (show (dgl d p c)[3]? = some (.int .i64 d.path) from rfl)
  have hrow := hb.row
  have hhas : hasRow (w.alloc (.cells (dgl d p c).toArray 34)) w.heap.size 11 = true := hb.has
  have fin : ∀ w', Kept [] (w.alloc (.cells (dgl d p c).toArray 34)) w' → Kept [] w w' := fun w' h => ((Kept.refl _ _).alloc _).trans0 h
  have FIN := Lib.hid fin
  clear fin
  by_cases h1 : d.kind < 1 ∨ 8 < d.kind
  · have hf := Lib.hid (show chk d = 72 by unfold chk; rw [if_pos h1])
    rcases h1 with h1 | h1
    · go_enter Try.func11, Try.ntmps11
      go_wp2
      go_ret
      exact ⟨by rw [hf.out]; rfl, FIN.out _ (Kept.refl _ _)⟩
    · have g : decide (d.kind < 1) = false := by simp; omega
      go_enter Try.func11, Try.ntmps11
      go_wp2
      go_ret
      exact ⟨by rw [hf.out]; rfl, FIN.out _ (Kept.refl _ _)⟩
  · have g : decide (d.kind < 1) = false := by simp; omega
    have g0 : ¬ 8 < d.kind := by omega
    by_cases h2 : d.path < 0
    · have hf := Lib.hid (show chk d = 73 by unfold chk; rw [if_neg h1, if_pos (by omega)])
      clear h1
      go_enter Try.func11, Try.ntmps11
      go_wp2
      go_ret
      exact ⟨by rw [hf.out]; rfl, FIN.out _ (Kept.refl _ _)⟩
    · have g2 : decide (d.path < 0) = false := by simp; omega
      by_cases h3 : 2 ≤ d.path
      · have hf := Lib.hid (show chk d = 73 by unfold chk; rw [if_neg h1, if_pos (by omega)])
        have g3 : decide (2 ≤ d.path) = true := by simp; omega
        clear h1 h2
        go_enter Try.func11, Try.ntmps11
        go_wp2
        go_ret
        exact ⟨by rw [hf.out]; rfl, FIN.out _ (Kept.refl _ _)⟩
      · have g3 : decide (2 ≤ d.path) = false := by simp; omega
        have hfo := form_any d p d.data.length c (w.alloc (.cells (dgl d p c).toArray 34)) (hd.kept ((Kept.refl _ _).alloc _))
        have hFO := Lib.hid hfo
        clear hfo
        cases hfb : formB d
        · have hf := Lib.hid (show chk d = 73 by unfold chk; rw [if_neg h1, if_pos (by simp [hfb])])
          have hfb' := Lib.hid hfb
          clear h1 h2 h3 hfb
          go_enter Try.func11, Try.ntmps11
          go_wp2_with fail
          refine hFO.out.mono ?_
          rintro e w1 ⟨rfl, hk⟩
          rw [hfb'.out]
          go_wp2
          go_ret
          exact ⟨by rw [hf.out]; rfl, FIN.out _ hk⟩
        · have hf := Lib.hid (show chk d = 0 by unfold chk; rw [if_neg h1, if_neg (by simp [hfb]; omega)])
          have hfb' := Lib.hid hfb
          clear h1 h2 h3 hfb
          go_enter Try.func11, Try.ntmps11
          go_wp2_with fail
          refine hFO.out.mono ?_
          rintro e w1 ⟨rfl, hk⟩
          rw [hfb'.out]
          go_wp2
          go_ret
          exact ⟨by rw [hf.out]; rfl, FIN.out _ hk⟩
end Go.Proofs.Ytgdofgckjkmhjaa
