/- Datagrams: the document's Check. -/
import Derived.Test.YtgdofgckjkmhjaaGreatPk05
set_option linter.unusedSimpArgs false
set_option linter.unusedVariables false
namespace Go.Proofs.YtgdofgckjkmhjaaGreat
open Go Go.RowKit
theorem chk_of (d : Dg) (P : Prop) [Decidable P] (h1 : 1 ≤ d.kind) (h8 : d.kind ≤ 8) (hf : formP d ↔ P) : chk d = if d.path < 0 ∨ 2 ≤ d.path ∨ ¬ P then 73 else 0 := by
  unfold chk
  rw [if_neg (by omega)]
  by_cases hp : P
  · have e : formB d = true := decide_eq_true (hf.2 hp)
    simp [e, hp]
  · have e : formB d = false := decide_eq_false (fun h => hp (hf.1 h))
    simp [e, hp]
set_option maxRecDepth 100000 in
set_option maxHeartbeats 3200000 in
theorem rchk_bad (d : Dg) (p : Option Addr) (n c : Nat) (w : World) (hd : Bts w p n c d.data) (hk : d.kind < 1 ∨ 8 < d.kind) :
    Calls Tryz.prog 55 #[.agg (dgl d p c).toArray] w fun e w' => e = .returned (.int .i64 (chk d)) ∧ Kept [] w w' := by
  have hc := Lib.hid (show chk d = 72 by unfold chk; rw [if_pos hk])
  obtain rfl := hd.hlen
  have htop := hd.htop
  have hle := hd.hle
  unfold maxLen at htop
  have hb := Blk.new w (dgl d p c) 50
  have c0 := hb.cell (show (dgl d p c)[0]? = some (.int .i64 d.kind) from rfl)
  have c3 := hb.cell (show (dgl d p c)[3]? = some (.int .i64 d.path) from rfl)
  have c5 := hb.cell (show (dgl d p c)[5]? = some (.int .u32 d.a) from rfl)
  have c6 := hb.cell (show (dgl d p c)[6]? = some (.int .u32 d.b) from rfl)
  have c7 := hb.cell (show (dgl d p c)[7]? = some (.int .i64 d.k) from rfl)
  have c8 := hb.cell (show (dgl d p c)[8]? = some (.int .i64 d.m) from rfl)
  have c9 := hb.cell (show (dgl d p c)[9]? = some (.int .i64 d.index) from rfl)
  have c10 := hb.cell (show (dgl d p c)[10]? = some (.slice p d.data.length c) from rfl)
  clear hb
  rcases hk with hk | hk
  · go_enter Tryz.func55, Tryz.ntmps55
    go_wp2
    all_goals
      go_ret
      exact ⟨by rw [hc.out]; rfl, (Kept.refl _ _).alloc _⟩
  · have g0 : decide (d.kind < 1) = false := by simp; omega
    go_enter Tryz.func55, Tryz.ntmps55
    go_wp2
    all_goals
      go_ret
      exact ⟨by rw [hc.out]; rfl, (Kept.refl _ _).alloc _⟩
set_option maxRecDepth 100000 in
set_option maxHeartbeats 6400000 in
theorem rchk_1 (d : Dg) (p : Option Addr) (n c : Nat) (w : World) (hd : Bts w p n c d.data) (hk : d.kind = 1) :
    Calls Tryz.prog 55 #[.agg (dgl d p c).toArray] w fun e w' => e = .returned (.int .i64 (chk d)) ∧ Kept [] w w' := by
  have hc := Lib.hid (chk_of d ((d.k = 0 ∧ d.m = 0 ∧ d.index = 0) ∧ d.data.length = 0) (by omega) (by omega) (by
    unfold formP
    rw [if_neg (by omega), if_neg (by omega), if_neg (by omega), if_neg (by omega), if_neg (by omega)]))
  obtain rfl := hd.hlen
  have htop := hd.htop
  have hle := hd.hle
  unfold maxLen at htop
  have hb := Blk.new w (dgl d p c) 50
  have c0 := hb.cell (show (dgl d p c)[0]? = some (.int .i64 d.kind) from rfl)
  have c3 := hb.cell (show (dgl d p c)[3]? = some (.int .i64 d.path) from rfl)
  have c5 := hb.cell (show (dgl d p c)[5]? = some (.int .u32 d.a) from rfl)
  have c6 := hb.cell (show (dgl d p c)[6]? = some (.int .u32 d.b) from rfl)
  have c7 := hb.cell (show (dgl d p c)[7]? = some (.int .i64 d.k) from rfl)
  have c8 := hb.cell (show (dgl d p c)[8]? = some (.int .i64 d.m) from rfl)
  have c9 := hb.cell (show (dgl d p c)[9]? = some (.int .i64 d.index) from rfl)
  have c10 := hb.cell (show (dgl d p c)[10]? = some (.slice p d.data.length c) from rfl)
  clear hb
  have g0 : decide (d.kind < 1) = false := by simp; omega
  have g1 : ¬ 8 < d.kind := by omega
  have k1 : (d.kind == 1) = true := by simp; omega
  clear hk
  go_enter Tryz.func55, Tryz.ntmps55
  go_wp2
  all_goals
    try simp only [beq_iff_eq] at *
    try simp only [beq_eq_false_iff_ne] at *
    go_ret
    refine ⟨?_, (Kept.refl _ _).alloc _⟩
    rw [hc.out]
    first | (rw [if_pos (by omega)]; rfl) | (rw [if_neg (by omega)]; rfl)
set_option maxRecDepth 100000 in
set_option maxHeartbeats 6400000 in
theorem rchk_6 (d : Dg) (p : Option Addr) (n c : Nat) (w : World) (hd : Bts w p n c d.data) (hk : d.kind = 6) :
    Calls Tryz.prog 55 #[.agg (dgl d p c).toArray] w fun e w' => e = .returned (.int .i64 (chk d)) ∧ Kept [] w w' := by
  have hc := Lib.hid (chk_of d ((d.k = 0 ∧ d.m = 0 ∧ d.index = 0) ∧ d.data.length = 0) (by omega) (by omega) (by
    unfold formP
    rw [if_neg (by omega), if_neg (by omega), if_neg (by omega), if_neg (by omega), if_neg (by omega)]))
  obtain rfl := hd.hlen
  have htop := hd.htop
  have hle := hd.hle
  unfold maxLen at htop
  have hb := Blk.new w (dgl d p c) 50
  have c0 := hb.cell (show (dgl d p c)[0]? = some (.int .i64 d.kind) from rfl)
  have c3 := hb.cell (show (dgl d p c)[3]? = some (.int .i64 d.path) from rfl)
  have c5 := hb.cell (show (dgl d p c)[5]? = some (.int .u32 d.a) from rfl)
  have c6 := hb.cell (show (dgl d p c)[6]? = some (.int .u32 d.b) from rfl)
  have c7 := hb.cell (show (dgl d p c)[7]? = some (.int .i64 d.k) from rfl)
  have c8 := hb.cell (show (dgl d p c)[8]? = some (.int .i64 d.m) from rfl)
  have c9 := hb.cell (show (dgl d p c)[9]? = some (.int .i64 d.index) from rfl)
  have c10 := hb.cell (show (dgl d p c)[10]? = some (.slice p d.data.length c) from rfl)
  clear hb
  have g0 : decide (d.kind < 1) = false := by simp; omega
  have g1 : ¬ 8 < d.kind := by omega
  have k1 : (d.kind == 1) = false := by simp; omega
  have k6 : (d.kind == 6) = true := by simp; omega
  clear hk
  go_enter Tryz.func55, Tryz.ntmps55
  go_wp2
  all_goals
    try simp only [beq_iff_eq] at *
    try simp only [beq_eq_false_iff_ne] at *
    go_ret
    refine ⟨?_, (Kept.refl _ _).alloc _⟩
    rw [hc.out]
    first | (rw [if_pos (by omega)]; rfl) | (rw [if_neg (by omega)]; rfl)
set_option maxRecDepth 100000 in
set_option maxHeartbeats 6400000 in
theorem rchk_5 (d : Dg) (p : Option Addr) (n c : Nat) (w : World) (hd : Bts w p n c d.data) (hk : d.kind = 5) :
    Calls Tryz.prog 55 #[.agg (dgl d p c).toArray] w fun e w' => e = .returned (.int .i64 (chk d)) ∧ Kept [] w w' := by
  have hc := Lib.hid (chk_of d ((d.k = 0 ∧ d.m = 0 ∧ d.index = 0) ∧ d.data.length = 4) (by omega) (by omega) (by
    unfold formP
    rw [if_neg (by omega), if_neg (by omega), if_pos hk]))
  obtain rfl := hd.hlen
  have htop := hd.htop
  have hle := hd.hle
  unfold maxLen at htop
  have hb := Blk.new w (dgl d p c) 50
  have c0 := hb.cell (show (dgl d p c)[0]? = some (.int .i64 d.kind) from rfl)
  have c3 := hb.cell (show (dgl d p c)[3]? = some (.int .i64 d.path) from rfl)
  have c5 := hb.cell (show (dgl d p c)[5]? = some (.int .u32 d.a) from rfl)
  have c6 := hb.cell (show (dgl d p c)[6]? = some (.int .u32 d.b) from rfl)
  have c7 := hb.cell (show (dgl d p c)[7]? = some (.int .i64 d.k) from rfl)
  have c8 := hb.cell (show (dgl d p c)[8]? = some (.int .i64 d.m) from rfl)
  have c9 := hb.cell (show (dgl d p c)[9]? = some (.int .i64 d.index) from rfl)
  have c10 := hb.cell (show (dgl d p c)[10]? = some (.slice p d.data.length c) from rfl)
  clear hb
  have g0 : decide (d.kind < 1) = false := by simp; omega
  have g1 : ¬ 8 < d.kind := by omega
  have k1 : (d.kind == 1) = false := by simp; omega
  have k6 : (d.kind == 6) = false := by simp; omega
  have k2 : (d.kind == 2) = false := by simp; omega
  have k3 : (d.kind == 3) = false := by simp; omega
  have k4 : (d.kind == 4) = false := by simp; omega
  have k5 : (d.kind == 5) = true := by simp; omega
  clear hk
  go_enter Tryz.func55, Tryz.ntmps55
  go_wp2
  all_goals
    try simp only [beq_iff_eq] at *
    try simp only [beq_eq_false_iff_ne] at *
    go_ret
    refine ⟨?_, (Kept.refl _ _).alloc _⟩
    rw [hc.out]
    first | (rw [if_pos (by omega)]; rfl) | (rw [if_neg (by omega)]; rfl)
set_option maxRecDepth 100000 in
set_option maxHeartbeats 6400000 in
theorem rchk_7 (d : Dg) (p : Option Addr) (n c : Nat) (w : World) (hd : Bts w p n c d.data) (hk : d.kind = 7) :
    Calls Tryz.prog 55 #[.agg (dgl d p c).toArray] w fun e w' => e = .returned (.int .i64 (chk d)) ∧ Kept [] w w' := by
  have hc := Lib.hid (chk_of d ((d.k = 0 ∧ d.m = 0 ∧ d.index = 0) ∧ d.data.length = 0 ∧ d.a = 0 ∧ d.b = 0) (by omega) (by omega) (by
    unfold formP
    rw [if_neg (by omega), if_neg (by omega), if_neg (by omega), if_pos hk]))
  obtain rfl := hd.hlen
  have htop := hd.htop
  have hle := hd.hle
  unfold maxLen at htop
  have hb := Blk.new w (dgl d p c) 50
  have c0 := hb.cell (show (dgl d p c)[0]? = some (.int .i64 d.kind) from rfl)
  have c3 := hb.cell (show (dgl d p c)[3]? = some (.int .i64 d.path) from rfl)
  have c5 := hb.cell (show (dgl d p c)[5]? = some (.int .u32 d.a) from rfl)
  have c6 := hb.cell (show (dgl d p c)[6]? = some (.int .u32 d.b) from rfl)
  have c7 := hb.cell (show (dgl d p c)[7]? = some (.int .i64 d.k) from rfl)
  have c8 := hb.cell (show (dgl d p c)[8]? = some (.int .i64 d.m) from rfl)
  have c9 := hb.cell (show (dgl d p c)[9]? = some (.int .i64 d.index) from rfl)
  have c10 := hb.cell (show (dgl d p c)[10]? = some (.slice p d.data.length c) from rfl)
  clear hb
  have g0 : decide (d.kind < 1) = false := by simp; omega
  have g1 : ¬ 8 < d.kind := by omega
  have k1 : (d.kind == 1) = false := by simp; omega
  have k6 : (d.kind == 6) = false := by simp; omega
  have k2 : (d.kind == 2) = false := by simp; omega
  have k3 : (d.kind == 3) = false := by simp; omega
  have k4 : (d.kind == 4) = false := by simp; omega
  have k5 : (d.kind == 5) = false := by simp; omega
  have k7 : (d.kind == 7) = true := by simp; omega
  clear hk
  go_enter Tryz.func55, Tryz.ntmps55
  go_wp2
  all_goals
    try simp only [beq_iff_eq] at *
    try simp only [beq_eq_false_iff_ne] at *
    go_ret
    refine ⟨?_, (Kept.refl _ _).alloc _⟩
    rw [hc.out]
    first | (rw [if_pos (by omega)]; rfl) | (rw [if_neg (by omega)]; rfl)
set_option maxRecDepth 100000 in
set_option maxHeartbeats 6400000 in
theorem rchk_8 (d : Dg) (p : Option Addr) (n c : Nat) (w : World) (hd : Bts w p n c d.data) (hk : d.kind = 8) :
    Calls Tryz.prog 55 #[.agg (dgl d p c).toArray] w fun e w' => e = .returned (.int .i64 (chk d)) ∧ Kept [] w w' := by
  have hc := Lib.hid (chk_of d ((d.k = 0 ∧ d.m = 0 ∧ d.index = 0) ∧ d.data.length = 0 ∧ d.b = 0) (by omega) (by omega) (by
    unfold formP
    rw [if_neg (by omega), if_neg (by omega), if_neg (by omega), if_neg (by omega), if_pos hk]))
  obtain rfl := hd.hlen
  have htop := hd.htop
  have hle := hd.hle
  unfold maxLen at htop
  have hb := Blk.new w (dgl d p c) 50
  have c0 := hb.cell (show (dgl d p c)[0]? = some (.int .i64 d.kind) from rfl)
  have c3 := hb.cell (show (dgl d p c)[3]? = some (.int .i64 d.path) from rfl)
  have c5 := hb.cell (show (dgl d p c)[5]? = some (.int .u32 d.a) from rfl)
  have c6 := hb.cell (show (dgl d p c)[6]? = some (.int .u32 d.b) from rfl)
  have c7 := hb.cell (show (dgl d p c)[7]? = some (.int .i64 d.k) from rfl)
  have c8 := hb.cell (show (dgl d p c)[8]? = some (.int .i64 d.m) from rfl)
  have c9 := hb.cell (show (dgl d p c)[9]? = some (.int .i64 d.index) from rfl)
  have c10 := hb.cell (show (dgl d p c)[10]? = some (.slice p d.data.length c) from rfl)
  clear hb
  have g0 : decide (d.kind < 1) = false := by simp; omega
  have g1 : ¬ 8 < d.kind := by omega
  have k1 : (d.kind == 1) = false := by simp; omega
  have k6 : (d.kind == 6) = false := by simp; omega
  have k2 : (d.kind == 2) = false := by simp; omega
  have k3 : (d.kind == 3) = false := by simp; omega
  have k4 : (d.kind == 4) = false := by simp; omega
  have k5 : (d.kind == 5) = false := by simp; omega
  have k7 : (d.kind == 7) = false := by simp; omega
  have k8 : (d.kind == 8) = true := by simp; omega
  clear hk
  go_enter Tryz.func55, Tryz.ntmps55
  go_wp2
  all_goals
    try simp only [beq_iff_eq] at *
    try simp only [beq_eq_false_iff_ne] at *
    go_ret
    refine ⟨?_, (Kept.refl _ _).alloc _⟩
    rw [hc.out]
    first | (rw [if_pos (by omega)]; rfl) | (rw [if_neg (by omega)]; rfl)
set_option maxRecDepth 100000 in
set_option maxHeartbeats 6400000 in
theorem rchk_2 (d : Dg) (p : Option Addr) (n c : Nat) (w : World) (hd : Bts w p n c d.data) (hk : d.kind = 2) :
    Calls Tryz.prog 55 #[.agg (dgl d p c).toArray] w fun e w' => e = .returned (.int .i64 (chk d)) ∧ Kept [] w w' := by
  have hc := Lib.hid (chk_of d (1 ≤ d.k ∧ d.k ≤ 16 ∧ 0 ≤ d.m ∧ d.m ≤ 16 ∧ 1 ≤ d.data.length ∧ d.data.length ≤ 1200 ∧ 0 ≤ d.index ∧ d.index < d.k) (by omega) (by omega) (by
    unfold formP
    rw [if_pos (by omega)]; unfold shardP; omega))
  obtain rfl := hd.hlen
  have htop := hd.htop
  have hle := hd.hle
  unfold maxLen at htop
  have hb := Blk.new w (dgl d p c) 50
  have c0 := hb.cell (show (dgl d p c)[0]? = some (.int .i64 d.kind) from rfl)
  have c3 := hb.cell (show (dgl d p c)[3]? = some (.int .i64 d.path) from rfl)
  have c5 := hb.cell (show (dgl d p c)[5]? = some (.int .u32 d.a) from rfl)
  have c6 := hb.cell (show (dgl d p c)[6]? = some (.int .u32 d.b) from rfl)
  have c7 := hb.cell (show (dgl d p c)[7]? = some (.int .i64 d.k) from rfl)
  have c8 := hb.cell (show (dgl d p c)[8]? = some (.int .i64 d.m) from rfl)
  have c9 := hb.cell (show (dgl d p c)[9]? = some (.int .i64 d.index) from rfl)
  have c10 := hb.cell (show (dgl d p c)[10]? = some (.slice p d.data.length c) from rfl)
  clear hb
  have g0 : decide (d.kind < 1) = false := by simp; omega
  have g1 : ¬ 8 < d.kind := by omega
  have k1 : (d.kind == 1) = false := by simp; omega
  have k6 : (d.kind == 6) = false := by simp; omega
  have k2 : (d.kind == 2) = true := by simp; omega
  clear hk
  go_enter Tryz.func55, Tryz.ntmps55
  go_wp2
  all_goals
    try simp only [beq_iff_eq] at *
    try simp only [beq_eq_false_iff_ne] at *
    go_ret
    refine ⟨?_, (Kept.refl _ _).alloc _⟩
    rw [hc.out]
    first | (rw [if_pos (by omega)]; rfl) | (rw [if_neg (by omega)]; rfl)
set_option maxRecDepth 100000 in
set_option maxHeartbeats 6400000 in
theorem rchk_3 (d : Dg) (p : Option Addr) (n c : Nat) (w : World) (hd : Bts w p n c d.data) (hk : d.kind = 3) :
    Calls Tryz.prog 55 #[.agg (dgl d p c).toArray] w fun e w' => e = .returned (.int .i64 (chk d)) ∧ Kept [] w w' := by
  have hc := Lib.hid (chk_of d (1 ≤ d.k ∧ d.k ≤ 16 ∧ 0 ≤ d.m ∧ d.m ≤ 16 ∧ 1 ≤ d.data.length ∧ d.data.length ≤ 1200 ∧ d.k ≤ d.index ∧ d.index < d.k + d.m) (by omega) (by omega) (by
    unfold formP
    rw [if_pos (by omega)]; unfold shardP; omega))
  obtain rfl := hd.hlen
  have htop := hd.htop
  have hle := hd.hle
  unfold maxLen at htop
  have hb := Blk.new w (dgl d p c) 50
  have c0 := hb.cell (show (dgl d p c)[0]? = some (.int .i64 d.kind) from rfl)
  have c3 := hb.cell (show (dgl d p c)[3]? = some (.int .i64 d.path) from rfl)
  have c5 := hb.cell (show (dgl d p c)[5]? = some (.int .u32 d.a) from rfl)
  have c6 := hb.cell (show (dgl d p c)[6]? = some (.int .u32 d.b) from rfl)
  have c7 := hb.cell (show (dgl d p c)[7]? = some (.int .i64 d.k) from rfl)
  have c8 := hb.cell (show (dgl d p c)[8]? = some (.int .i64 d.m) from rfl)
  have c9 := hb.cell (show (dgl d p c)[9]? = some (.int .i64 d.index) from rfl)
  have c10 := hb.cell (show (dgl d p c)[10]? = some (.slice p d.data.length c) from rfl)
  clear hb
  have g0 : decide (d.kind < 1) = false := by simp; omega
  have g1 : ¬ 8 < d.kind := by omega
  have k1 : (d.kind == 1) = false := by simp; omega
  have k6 : (d.kind == 6) = false := by simp; omega
  have k2 : (d.kind == 2) = false := by simp; omega
  have k3 : (d.kind == 3) = true := by simp; omega
  clear hk
  go_enter Tryz.func55, Tryz.ntmps55
  go_wp2
  all_goals
    try simp only [beq_iff_eq] at *
    try simp only [beq_eq_false_iff_ne] at *
    go_ret
    refine ⟨?_, (Kept.refl _ _).alloc _⟩
    rw [hc.out]
    first | (rw [if_pos (by omega)]; rfl) | (rw [if_neg (by omega)]; rfl)
/-- Is place i as an ask for shards wants it? -/
def mc (l : List UInt8) (i : Nat) : Bool := match l[i]? with
  | none => true
  | some x => decide (x.toNat < 32) && (decide (i = 0) || decide ((l[i - 1]?.getD 0).toNat < x.toNat))
def mcs (l : List UInt8) : Nat → Bool
  | 0 => true
  | k + 1 => mcs l k && mc l k
theorem mcs_iff (l : List UInt8) (k : Nat) : mcs l k = true ↔ ∀ i, i < k → mc l i = true := by
  induction k with
  | zero => simp [mcs]
  | succ k ih =>
    simp only [mcs, Bool.and_eq_true, ih]
    constructor
    · rintro ⟨h1, h2⟩ i hi
      by_cases e : i = k
      · subst e; exact h2
      · exact h1 i (by omega)
    · intro h
      exact ⟨fun i hi => h i (by omega), h k (by omega)⟩
theorem mc_iff (l : List UInt8) (i : Nat) (h : i < l.length) : mc l i = true ↔ l[i].toNat < 32 ∧ (0 < i → l[i - 1].toNat < l[i].toNat) := by
  unfold mc
  rw [List.getElem?_eq_getElem h, List.getElem?_eq_getElem (by omega : i - 1 < l.length)]
  simp
  intro _
  omega
theorem miss_iff (l : List UInt8) (h1 : 1 ≤ l.length) (h2 : l.length ≤ 32) : missP l ↔ mcs l l.length = true := by
  rw [mcs_iff]
  constructor
  · intro h i hi
    exact (mc_iff l i hi).2 (h.2.2 i hi)
  · intro h
    exact ⟨h1, h2, fun i hi => (mc_iff l i hi).1 (h i hi)⟩
set_option maxRecDepth 100000 in
set_option maxHeartbeats 6400000 in
theorem rchk_4no (d : Dg) (p : Option Addr) (n c : Nat) (w : World) (hd : Bts w p n c d.data) (hk : d.kind = 4) (hno : ¬ (d.k = 0 ∧ d.m = 0 ∧ d.index = 0 ∧ d.b = 0 ∧ 1 ≤ d.data.length ∧ d.data.length ≤ 32)) :
    Calls Tryz.prog 55 #[.agg (dgl d p c).toArray] w fun e w' => e = .returned (.int .i64 (chk d)) ∧ Kept [] w w' := by
  have hc : Hid (chk d = 73) := by
    show _ = _
    unfold chk
    rw [if_neg (by omega), if_pos]
    refine .inr (.inr (decide_eq_false ?_))
    unfold formP
    rw [if_neg (by omega), if_pos hk]
    rintro ⟨⟨z1, z2, z3⟩, z4, z5, z6, _⟩
    exact hno ⟨z1, z2, z3, z4, z5, z6⟩
  obtain rfl := hd.hlen
  have htop := hd.htop
  have hle := hd.hle
  unfold maxLen at htop
  have hb := Blk.new w (dgl d p c) 50
  have c0 := hb.cell (show (dgl d p c)[0]? = some (.int .i64 d.kind) from rfl)
  have c3 := hb.cell (show (dgl d p c)[3]? = some (.int .i64 d.path) from rfl)
  have c5 := hb.cell (show (dgl d p c)[5]? = some (.int .u32 d.a) from rfl)
  have c6 := hb.cell (show (dgl d p c)[6]? = some (.int .u32 d.b) from rfl)
  have c7 := hb.cell (show (dgl d p c)[7]? = some (.int .i64 d.k) from rfl)
  have c8 := hb.cell (show (dgl d p c)[8]? = some (.int .i64 d.m) from rfl)
  have c9 := hb.cell (show (dgl d p c)[9]? = some (.int .i64 d.index) from rfl)
  have c10 := hb.cell (show (dgl d p c)[10]? = some (.slice p d.data.length c) from rfl)
  clear hb
  have hkd : Kept [] w (w.alloc (.cells (dgl d p c).toArray 50)) := (Kept.refl _ _).alloc _
  have hda := hd.kept hkd
  have HD := Lib.hid hda
  clear hda hkd
  have g0 : decide (d.kind < 1) = false := by simp; omega
  have g1 : ¬ 8 < d.kind := by omega
  have k1 : (d.kind == 1) = false := by simp; omega
  have k6 : (d.kind == 6) = false := by simp; omega
  have k2 : (d.kind == 2) = false := by simp; omega
  have k3 : (d.kind == 3) = false := by simp; omega
  have k4 : (d.kind == 4) = true := by simp; omega
  clear hk
  by_cases t0 : d.k = 0
  · have u0 : (d.k == 0) = true := by simp; omega
    by_cases t1 : d.m = 0
    · have u1 : (d.m == 0) = true := by simp; omega
      by_cases t2 : d.index = 0
      · have u2 : (d.index == 0) = true := by simp; omega
        by_cases t3 : d.b = 0
        · have u3 : ((d.b : Int) == 0) = true := by simp; omega
          by_cases t4 : 1 ≤ d.data.length
          · have u4 : decide ((1 : Int) ≤ (d.data.length : Int)) = true := by simp; omega
            by_cases t5 : d.data.length ≤ 32
            · exact absurd ⟨t0, t1, t2, t3, t4, t5⟩ hno
            · have u5 : decide ((d.data.length : Int) ≤ 32) = false := by simp; omega
              clear hno t0 t1 t2 t3 t4 t5
              go_enter Tryz.func55, Tryz.ntmps55
              go_wp2
              go_loopw [5, 6] (fun b i wr => ∃ k : Nat, k ≤ d.data.length ∧ i = .int .i64 k ∧ b = .bool false ∧ ∃ q, wr = (w.alloc (.cells (dgl d p c).toArray 50)).drewN q) (fun _ i _ => d.data.length - (intOf i).toNat)
              case atStart => exact ⟨0, Nat.zero_le _, rfl, rfl, 0, rfl⟩
              case round =>
                obtain ⟨k, hk, rfl, rfl, q, rfl⟩ := hrel
                by_cases hlt : k < d.data.length
                · go_wp2
                  go_quiet (fail)
                  go_wp2
                  go_roundw
                  case rel => exact ⟨k + 1, by omega, by go_num, rfl, _, rfl⟩
                  case measure => simp [intOf] <;> omega
                · obtain rfl : k = d.data.length := by omega
                  go_wp2
                  go_ret
                  exact ⟨by rw [hc.out]; rfl, ((Kept.refl _ _).alloc _).drewN _⟩
          · have u4 : decide ((1 : Int) ≤ (d.data.length : Int)) = false := by simp; omega
            clear hno t0 t1 t2 t3 t4
            go_enter Tryz.func55, Tryz.ntmps55
            go_wp2
            go_loopw [5, 6] (fun b i wr => ∃ k : Nat, k ≤ d.data.length ∧ i = .int .i64 k ∧ b = .bool false ∧ ∃ q, wr = (w.alloc (.cells (dgl d p c).toArray 50)).drewN q) (fun _ i _ => d.data.length - (intOf i).toNat)
            case atStart => exact ⟨0, Nat.zero_le _, rfl, rfl, 0, rfl⟩
            case round =>
              obtain ⟨k, hk, rfl, rfl, q, rfl⟩ := hrel
              by_cases hlt : k < d.data.length
              · go_wp2
                go_quiet (fail)
                go_wp2
                go_roundw
                case rel => exact ⟨k + 1, by omega, by go_num, rfl, _, rfl⟩
                case measure => simp [intOf] <;> omega
              · obtain rfl : k = d.data.length := by omega
                go_wp2
                go_ret
                exact ⟨by rw [hc.out]; rfl, ((Kept.refl _ _).alloc _).drewN _⟩
        · have u3 : ((d.b : Int) == 0) = false := by simp; omega
          clear hno t0 t1 t2 t3
          go_enter Tryz.func55, Tryz.ntmps55
          go_wp2
          go_loopw [5, 6] (fun b i wr => ∃ k : Nat, k ≤ d.data.length ∧ i = .int .i64 k ∧ b = .bool false ∧ ∃ q, wr = (w.alloc (.cells (dgl d p c).toArray 50)).drewN q) (fun _ i _ => d.data.length - (intOf i).toNat)
          case atStart => exact ⟨0, Nat.zero_le _, rfl, rfl, 0, rfl⟩
          case round =>
            obtain ⟨k, hk, rfl, rfl, q, rfl⟩ := hrel
            by_cases hlt : k < d.data.length
            · go_wp2
              go_quiet (fail)
              go_wp2
              go_roundw
              case rel => exact ⟨k + 1, by omega, by go_num, rfl, _, rfl⟩
              case measure => simp [intOf] <;> omega
            · obtain rfl : k = d.data.length := by omega
              go_wp2
              go_ret
              exact ⟨by rw [hc.out]; rfl, ((Kept.refl _ _).alloc _).drewN _⟩
      · have u2 : (d.index == 0) = false := by simp; omega
        clear hno t0 t1 t2
        go_enter Tryz.func55, Tryz.ntmps55
        go_wp2
        go_loopw [5, 6] (fun b i wr => ∃ k : Nat, k ≤ d.data.length ∧ i = .int .i64 k ∧ b = .bool false ∧ ∃ q, wr = (w.alloc (.cells (dgl d p c).toArray 50)).drewN q) (fun _ i _ => d.data.length - (intOf i).toNat)
        case atStart => exact ⟨0, Nat.zero_le _, rfl, rfl, 0, rfl⟩
        case round =>
          obtain ⟨k, hk, rfl, rfl, q, rfl⟩ := hrel
          by_cases hlt : k < d.data.length
          · go_wp2
            go_quiet (fail)
            go_wp2
            go_roundw
            case rel => exact ⟨k + 1, by omega, by go_num, rfl, _, rfl⟩
            case measure => simp [intOf] <;> omega
          · obtain rfl : k = d.data.length := by omega
            go_wp2
            go_ret
            exact ⟨by rw [hc.out]; rfl, ((Kept.refl _ _).alloc _).drewN _⟩
    · have u1 : (d.m == 0) = false := by simp; omega
      clear hno t0 t1
      go_enter Tryz.func55, Tryz.ntmps55
      go_wp2
      go_loopw [5, 6] (fun b i wr => ∃ k : Nat, k ≤ d.data.length ∧ i = .int .i64 k ∧ b = .bool false ∧ ∃ q, wr = (w.alloc (.cells (dgl d p c).toArray 50)).drewN q) (fun _ i _ => d.data.length - (intOf i).toNat)
      case atStart => exact ⟨0, Nat.zero_le _, rfl, rfl, 0, rfl⟩
      case round =>
        obtain ⟨k, hk, rfl, rfl, q, rfl⟩ := hrel
        by_cases hlt : k < d.data.length
        · go_wp2
          go_quiet (fail)
          go_wp2
          go_roundw
          case rel => exact ⟨k + 1, by omega, by go_num, rfl, _, rfl⟩
          case measure => simp [intOf] <;> omega
        · obtain rfl : k = d.data.length := by omega
          go_wp2
          go_ret
          exact ⟨by rw [hc.out]; rfl, ((Kept.refl _ _).alloc _).drewN _⟩
  · have u0 : (d.k == 0) = false := by simp; omega
    clear hno t0
    go_enter Tryz.func55, Tryz.ntmps55
    go_wp2
    go_loopw [5, 6] (fun b i wr => ∃ k : Nat, k ≤ d.data.length ∧ i = .int .i64 k ∧ b = .bool false ∧ ∃ q, wr = (w.alloc (.cells (dgl d p c).toArray 50)).drewN q) (fun _ i _ => d.data.length - (intOf i).toNat)
    case atStart => exact ⟨0, Nat.zero_le _, rfl, rfl, 0, rfl⟩
    case round =>
      obtain ⟨k, hk, rfl, rfl, q, rfl⟩ := hrel
      by_cases hlt : k < d.data.length
      · go_wp2
        go_quiet (fail)
        go_wp2
        go_roundw
        case rel => exact ⟨k + 1, by omega, by go_num, rfl, _, rfl⟩
        case measure => simp [intOf] <;> omega
      · obtain rfl : k = d.data.length := by omega
        go_wp2
        go_ret
        exact ⟨by rw [hc.out]; rfl, ((Kept.refl _ _).alloc _).drewN _⟩
set_option maxRecDepth 100000 in
set_option maxHeartbeats 6400000 in
theorem rchk_4yes (d : Dg) (p : Option Addr) (n c : Nat) (w : World) (hd : Bts w p n c d.data) (hk : d.kind = 4) (t0 : d.k = 0) (t1 : d.m = 0) (t2 : d.index = 0) (t3 : d.b = 0) (t4 : 1 ≤ d.data.length) (t5 : d.data.length ≤ 32) :
    Calls Tryz.prog 55 #[.agg (dgl d p c).toArray] w fun e w' => e = .returned (.int .i64 (chk d)) ∧ Kept [] w w' := by
  have hc := Lib.hid (chk_of d (mcs d.data d.data.length = true) (by omega) (by omega) (by
    unfold formP
    rw [if_neg (by omega), if_pos hk]
    constructor
    · rintro ⟨_, _, h⟩
      exact (miss_iff _ t4 t5).1 h
    · intro h
      exact ⟨⟨t0, t1, t2⟩, t3, (miss_iff _ t4 t5).2 h⟩))
  obtain rfl := hd.hlen
  have htop := hd.htop
  have hle := hd.hle
  unfold maxLen at htop
  have hb := Blk.new w (dgl d p c) 50
  have c0 := hb.cell (show (dgl d p c)[0]? = some (.int .i64 d.kind) from rfl)
  have c3 := hb.cell (show (dgl d p c)[3]? = some (.int .i64 d.path) from rfl)
  have c5 := hb.cell (show (dgl d p c)[5]? = some (.int .u32 d.a) from rfl)
  have c6 := hb.cell (show (dgl d p c)[6]? = some (.int .u32 d.b) from rfl)
  have c7 := hb.cell (show (dgl d p c)[7]? = some (.int .i64 d.k) from rfl)
  have c8 := hb.cell (show (dgl d p c)[8]? = some (.int .i64 d.m) from rfl)
  have c9 := hb.cell (show (dgl d p c)[9]? = some (.int .i64 d.index) from rfl)
  have c10 := hb.cell (show (dgl d p c)[10]? = some (.slice p d.data.length c) from rfl)
  clear hb
  have hkd : Kept [] w (w.alloc (.cells (dgl d p c).toArray 50)) := (Kept.refl _ _).alloc _
  have hda := hd.kept hkd
  have HD := Lib.hid hda
  clear hda hkd
  have g0 : decide (d.kind < 1) = false := by simp; omega
  have g1 : ¬ 8 < d.kind := by omega
  have k1 : (d.kind == 1) = false := by simp; omega
  have k6 : (d.kind == 6) = false := by simp; omega
  have k2 : (d.kind == 2) = false := by simp; omega
  have k3 : (d.kind == 3) = false := by simp; omega
  have k4 : (d.kind == 4) = true := by simp; omega
  have u0 : (d.k == 0) = true := by simp; omega
  have u1 : (d.m == 0) = true := by simp; omega
  have u2 : (d.index == 0) = true := by simp; omega
  have u3 : ((d.b : Int) == 0) = true := by simp; omega
  have u4 : decide ((1 : Int) ≤ (d.data.length : Int)) = true := by simp; omega
  have u5 : decide ((d.data.length : Int) ≤ 32) = true := by simp; omega
  clear hk t0 t1 t2 t3
  go_enter Tryz.func55, Tryz.ntmps55
  go_wp2
  go_loopw [5, 6] (fun b i wr => ∃ k : Nat, k ≤ d.data.length ∧ i = .int .i64 k ∧ b = .bool (mcs d.data k) ∧ ∃ q, wr = (w.alloc (.cells (dgl d p c).toArray 50)).drewN q) (fun _ i _ => d.data.length - (intOf i).toNat)
  case atStart => exact ⟨0, Nat.zero_le _, rfl, rfl, 0, rfl⟩
  case round =>
    obtain ⟨k, hk, rfl, rfl, q, rfl⟩ := hrel
    by_cases hlt : k < d.data.length
    · have hstep : Hid (mcs d.data (k + 1) = (mcs d.data k && mc d.data k)) := rfl
      cases hok : mcs d.data k
      · have hok' := Lib.hid hok
        clear hok
        go_wp2
        go_quiet (fail)
        go_wp2
        go_roundw
        case rel => exact ⟨k + 1, by omega, by go_num, by rw [hstep.out, hok'.out]; rfl, _, rfl⟩
        case measure => simp [intOf] <;> omega
      · have hok' := Lib.hid hok
        clear hok
        obtain ⟨b, off, rfl⟩ := hd.some (by omega)
        have hcell := HD.out.at k hlt
        have hi := mc_iff d.data k hlt
        have b0 : (0 : Int) ≤ (k : Int) := by omega
        have b1 : (k : Int) < (d.data.length : Int) := by omega
        by_cases hx : d.data[k].toNat < 32
        · have g2 : decide ((d.data[k].toNat : Int) < 32) = true := by simp; omega
          by_cases hk0 : k = 0
          · have hm : Hid (mc d.data k = true) := hi.2 ⟨hx, fun h => by omega⟩
            have g3 : ((k : Int) == 0) = true := by simp; omega
            clear hi hx hk0
            go_wp2
            go_quiet (fail)
            go_wp2
            go_roundw
            case rel => exact ⟨k + 1, by omega, by go_num, by rw [hstep.out, hok'.out, hm.out]; rfl, _, rfl⟩
            case measure => simp [intOf] <;> omega
          · obtain ⟨r, rfl⟩ : ∃ r, k = r + 1 := ⟨k - 1, by omega⟩
            have hr : r < d.data.length := by omega
            have hcr := HD.out.at r hr
            have g3 : ((r : Int) + 1 == 0) = false := by simp; omega
            have e1 : IntKind.i64.wrap ((r : Int) + 1 - 1) = (r : Int) := by rw [IntKind.wrap_i64]; omega
            have e2 : ((r : Int) + 1 - 1) = (r : Int) := by omega
            have b2 : (r : Int) < (d.data.length : Int) := by omega
            simp only [Nat.add_sub_cancel] at hi
            by_cases hgt : d.data[r].toNat < d.data[r + 1].toNat
            · have hm : Hid (mc d.data (r + 1) = true) := hi.2 ⟨hx, fun _ => hgt⟩
              have hgN := Lib.hid (decide_eq_true hgt)
              have g4 : decide ((d.data[r].toNat : Int) < (d.data[r + 1].toNat : Int)) = true := by simp; omega
              clear hi hx hk0 hgt
              go_wp2
              go_quiet (fail)
              go_wp2
              go_roundw
              case rel => exact ⟨r + 1 + 1, by omega, by go_num, by rw [hstep.out, hok'.out, hm.out, hgN.out]; rfl, _, rfl⟩
              case measure => simp [intOf] <;> omega
            · have hgN := Lib.hid (decide_eq_false hgt)
              have hm : Hid (mc d.data (r + 1) = false) := by
                show _ = _
                rw [Bool.eq_false_iff]
                intro h
                exact hgt ((hi.1 h).2 (by omega))
              have g4 : decide ((d.data[r].toNat : Int) < (d.data[r + 1].toNat : Int)) = false := by simp; omega
              clear hi hx hk0 hgt
              go_wp2
              go_quiet (fail)
              go_wp2
              go_roundw
              case rel => exact ⟨r + 1 + 1, by omega, by go_num, by rw [hstep.out, hok'.out, hm.out, hgN.out]; rfl, _, rfl⟩
              case measure => simp [intOf] <;> omega
        · have hm : Hid (mc d.data k = false) := by
            show _ = _
            rw [Bool.eq_false_iff]
            intro h
            exact hx (hi.1 h).1
          have g2 : decide ((d.data[k].toNat : Int) < 32) = false := by simp; omega
          clear hi hx
          go_wp2
          go_quiet (fail)
          go_wp2
          go_roundw
          case rel => exact ⟨k + 1, by omega, by go_num, by rw [hstep.out, hok'.out, hm.out]; rfl, _, rfl⟩
          case measure => simp [intOf] <;> omega
    · obtain rfl : k = d.data.length := by omega
      cases hok : mcs d.data d.data.length
      · have hc2 : Hid (chk d = 73) := by
          show _ = _
          rw [hc.out, if_pos]
          simp [hok]
        clear hok
        go_wp2
        all_goals
          go_ret
          exact ⟨by rw [hc2.out]; rfl, ((Kept.refl _ _).alloc _).drewN _⟩
      · have hc2 : Hid (chk d = if d.path < 0 ∨ 2 ≤ d.path then 73 else 0) := by
          show _ = _
          rw [hc.out]
          simp [hok]
        clear hok
        go_wp2
        all_goals
          go_ret
          refine ⟨?_, ((Kept.refl _ _).alloc _).drewN _⟩
          rw [hc2.out]
          first | (rw [if_pos (by omega)]; rfl) | (rw [if_neg (by omega)]; rfl)
theorem rcheck_any (d : Dg) (p : Option Addr) (n c : Nat) (w : World) (hd : Bts w p n c d.data) :
    Calls Tryz.prog 55 #[.agg (dgl d p c).toArray] w fun e w' => e = .returned (.int .i64 (chk d)) ∧ Kept [] w w' := by
  rcases (show (d.kind < 1 ∨ 8 < d.kind) ∨ d.kind = 1 ∨ d.kind = 2 ∨ d.kind = 3 ∨ d.kind = 4 ∨ d.kind = 5 ∨ d.kind = 6 ∨ d.kind = 7 ∨ d.kind = 8 by omega) with h | h | h | h | h | h | h | h | h
  · exact rchk_bad d p n c w hd h
  · exact rchk_1 d p n c w hd h
  · exact rchk_2 d p n c w hd h
  · exact rchk_3 d p n c w hd h
  · by_cases hy : d.k = 0 ∧ d.m = 0 ∧ d.index = 0 ∧ d.b = 0 ∧ 1 ≤ d.data.length ∧ d.data.length ≤ 32
    · exact rchk_4yes d p n c w hd h hy.1 hy.2.1 hy.2.2.1 hy.2.2.2.1 hy.2.2.2.2.1 hy.2.2.2.2.2
    · exact rchk_4no d p n c w hd h hy
  · exact rchk_5 d p n c w hd h
  · exact rchk_6 d p n c w hd h
  · exact rchk_7 d p n c w hd h
  · exact rchk_8 d p n c w hd h
end Go.Proofs.YtgdofgckjkmhjaaGreat
