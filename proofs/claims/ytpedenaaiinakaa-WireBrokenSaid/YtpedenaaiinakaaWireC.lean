import Derived.Test.YtpedenaaiinakaaWireB
namespace Go.Proofs.Ytpedenaaiinakaa
open Go Go.RowKit
theorem chk_of (d : Dg) (P : Prop) [Decidable P] (h1 : 1 ≤ d.kind) (h8 : d.kind ≤ 8) (hf : formP d ↔ P) : chk d = if d.path < 0 ∨ 2 ≤ d.path ∨ ¬ P then 73 else 0 := by
  unfold chk
  rw [if_neg (by omega)]
  by_cases hp : P
  · have e : formB d = true := decide_eq_true (hf.2 hp)
    simp [e, hp]
  · have e : formB d = false := decide_eq_false (fun h => hp (hf.1 h))
    simp [e, hp]
set_option maxRecDepth 100000 in
set_option maxHeartbeats 3200000 in
theorem rchk_bad (d : Dg) (p : Option Addr) (n c : Nat) (w : World) (hd : Bts w p n c d.data) (hk : d.kind < 1 ∨ 8 < d.kind) :
    Calls Try.prog 27 #[.agg (dgl d p c).toArray] w fun e w' => e = .returned (.int .i64 (chk d)) ∧ Kept [] w w' := by
  have hc := Lib.hid (show chk d = 72 by unfold chk; rw [if_pos hk])
  obtain rfl := hd.hlen
  have htop := hd.htop
  have hle := hd.hle
  unfold maxLen at htop
  have hb := Blk.new w (dgl d p c) 25
  have c0 := hb.cell (show (dgl d p c)[0]? = some (.int .i64 d.kind) from rfl)
  have c3 := hb.cell (show (dgl d p c)[3]? = some (.int .i64 d.path) from rfl)
  have c5 := hb.cell (show (dgl d p c)[5]? = some (.int .u32 d.a) from rfl)
  have c6 := hb.cell (show (dgl d p c)[6]? = some (.int .u32 d.b) from rfl)
  have c7 := hb.cell (show (dgl d p c)[7]? = some (.int .i64 d.k) from rfl)
  have c8 := hb.cell (show (dgl d p c)[8]? = some (.int .i64 d.m) from rfl)
  have c9 := hb.cell (show (dgl d p c)[9]? = some (.int .i64 d.index) from rfl)
  have c10 := hb.cell (show (dgl d p c)[10]? = some (.slice p d.data.length c) from rfl)
  clear hb
  rcases hk with hk | hk
  · go_enter Try.func27, Try.ntmps27
    go_wp2
    all_goals
      go_ret
      exact ⟨by rw [hc.out]; rfl, (Kept.refl _ _).alloc _⟩
  · have g0 : decide (d.kind < 1) = false := by simp; omega
    go_enter Try.func27, Try.ntmps27
    go_wp2
    all_goals
      go_ret
      exact ⟨by rw [hc.out]; rfl, (Kept.refl _ _).alloc _⟩
set_option maxRecDepth 100000 in
set_option maxHeartbeats 6400000 in
theorem rchk_1 (d : Dg) (p : Option Addr) (n c : Nat) (w : World) (hd : Bts w p n c d.data) (hk : d.kind = 1) :
    Calls Try.prog 27 #[.agg (dgl d p c).toArray] w fun e w' => e = .returned (.int .i64 (chk d)) ∧ Kept [] w w' := by
  have hc := Lib.hid (chk_of d ((d.k = 0 ∧ d.m = 0 ∧ d.index = 0) ∧ d.data.length = 0) (by omega) (by omega) (by
    unfold formP
    rw [if_neg (by omega), if_neg (by omega), if_neg (by omega), if_neg (by omega), if_neg (by omega)]))
  obtain rfl := hd.hlen
  have htop := hd.htop
  have hle := hd.hle
  unfold maxLen at htop
  have hb := Blk.new w (dgl d p c) 25
  have c0 := hb.cell (show (dgl d p c)[0]? = some (.int .i64 d.kind) from rfl)
  have c3 := hb.cell (show (dgl d p c)[3]? = some (.int .i64 d.path) from rfl)
  have c5 := hb.cell (show (dgl d p c)[5]? = some (.int .u32 d.a) from rfl)
  have c6 := hb.cell (show (dgl d p c)[6]? = some (.int .u32 d.b) from rfl)
  have c7 := hb.cell (show (dgl d p c)[7]? = some (.int .i64 d.k) from rfl)
  have c8 := hb.cell (show (dgl d p c)[8]? = some (.int .i64 d.m) from rfl)
  have c9 := hb.cell (show (dgl d p c)[9]? = some (.int .i64 d.index) from rfl)
  have c10 := hb.cell (show (dgl d p c)[10]? = some (.slice p d.data.length c) from rfl)
  clear hb
  have g0 : decide (d.kind < 1) = false := by simp; omega
  have g1 : ¬ 8 < d.kind := by omega
  have k1 : (d.kind == 1) = true := by simp; omega
  clear hk
  go_enter Try.func27, Try.ntmps27
  go_wp2
  all_goals
    try simp only [beq_iff_eq] at *
    try simp only [beq_eq_false_iff_ne] at *
    go_ret
    refine ⟨?_, (Kept.refl _ _).alloc _⟩
    rw [hc.out]
    first | (rw [if_pos (by omega)]; rfl) | (rw [if_neg (by omega)]; rfl)
set_option maxRecDepth 100000 in
set_option maxHeartbeats 6400000 in
theorem rchk_6 (d : Dg) (p : Option Addr) (n c : Nat) (w : World) (hd : Bts w p n c d.data) (hk : d.kind = 6) :
    Calls Try.prog 27 #[.agg (dgl d p c).toArray] w fun e w' => e = .returned (.int .i64 (chk d)) ∧ Kept [] w w' := by
  have hc := Lib.hid (chk_of d ((d.k = 0 ∧ d.m = 0 ∧ d.index = 0) ∧ d.data.length = 0) (by omega) (by omega) (by
    unfold formP
    rw [if_neg (by omega), if_neg (by omega), if_neg (by omega), if_neg (by omega), if_neg (by omega)]))
  obtain rfl := hd.hlen
  have htop := hd.htop
  have hle := hd.hle
  unfold maxLen at htop
  have hb := Blk.new w (dgl d p c) 25
  have c0 := hb.cell (show (dgl d p c)[0]? = some (.int .i64 d.kind) from rfl)
  have c3 := hb.cell (show (dgl d p c)[3]? = some (.int .i64 d.path) from rfl)
  have c5 := hb.cell (show (dgl d p c)[5]? = some (.int .u32 d.a) from rfl)
  have c6 := hb.cell (show (dgl d p c)[6]? = some (.int .u32 d.b) from rfl)
  have c7 := hb.cell (show (dgl d p c)[7]? = some (.int .i64 d.k) from rfl)
  have c8 := hb.cell (show (dgl d p c)[8]? = some (.int .i64 d.m) from rfl)
  have c9 := hb.cell (show (dgl d p c)[9]? = some (.int .i64 d.index) from rfl)
  have c10 := hb.cell (show (dgl d p c)[10]? = some (.slice p d.data.length c) from rfl)
  clear hb
  have g0 : decide (d.kind < 1) = false := by simp; omega
  have g1 : ¬ 8 < d.kind := by omega
  have k1 : (d.kind == 1) = false := by simp; omega
  have k6 : (d.kind == 6) = true := by simp; omega
  clear hk
  go_enter Try.func27, Try.ntmps27
  go_wp2
  all_goals
    try simp only [beq_iff_eq] at *
    try simp only [beq_eq_false_iff_ne] at *
    go_ret
    refine ⟨?_, (Kept.refl _ _).alloc _⟩
    rw [hc.out]
    first | (rw [if_pos (by omega)]; rfl) | (rw [if_neg (by omega)]; rfl)
set_option maxRecDepth 100000 in
set_option maxHeartbeats 6400000 in
theorem rchk_5 (d : Dg) (p : Option Addr) (n c : Nat) (w : World) (hd : Bts w p n c d.data) (hk : d.kind = 5) :
    Calls Try.prog 27 #[.agg (dgl d p c).toArray] w fun e w' => e = .returned (.int .i64 (chk d)) ∧ Kept [] w w' := by
  have hc := Lib.hid (chk_of d ((d.k = 0 ∧ d.m = 0 ∧ d.index = 0) ∧ d.data.length = 4) (by omega) (by omega) (by
    unfold formP
    rw [if_neg (by omega), if_neg (by omega), if_pos hk]))
  obtain rfl := hd.hlen
  have htop := hd.htop
  have hle := hd.hle
  unfold maxLen at htop
  have hb := Blk.new w (dgl d p c) 25
  have c0 := hb.cell (show (dgl d p c)[0]? = some (.int .i64 d.kind) from rfl)
  have c3 := hb.cell (show (dgl d p c)[3]? = some (.int .i64 d.path) from rfl)
  have c5 := hb.cell (show (dgl d p c)[5]? = some (.int .u32 d.a) from rfl)
  have c6 := hb.cell (show (dgl d p c)[6]? = some (.int .u32 d.b) from rfl)
  have c7 := hb.cell (show (dgl d p c)[7]? = some (.int .i64 d.k) from rfl)
  have c8 := hb.cell (show (dgl d p c)[8]? = some (.int .i64 d.m) from rfl)
  have c9 := hb.cell (show (dgl d p c)[9]? = some (.int .i64 d.index) from rfl)
  have c10 := hb.cell (show (dgl d p c)[10]? = some (.slice p d.data.length c) from rfl)
  clear hb
  have g0 : decide (d.kind < 1) = false := by simp; omega
  have g1 : ¬ 8 < d.kind := by omega
  have k1 : (d.kind == 1) = false := by simp; omega
  have k6 : (d.kind == 6) = false := by simp; omega
  have k2 : (d.kind == 2) = false := by simp; omega
  have k3 : (d.kind == 3) = false := by simp; omega
  have k4 : (d.kind == 4) = false := by simp; omega
  have k5 : (d.kind == 5) = true := by simp; omega
  clear hk
  go_enter Try.func27, Try.ntmps27
  go_wp2
  all_goals
    try simp only [beq_iff_eq] at *
    try simp only [beq_eq_false_iff_ne] at *
    go_ret
    refine ⟨?_, (Kept.refl _ _).alloc _⟩
    rw [hc.out]
    first | (rw [if_pos (by omega)]; rfl) | (rw [if_neg (by omega)]; rfl)
set_option maxRecDepth 100000 in
set_option maxHeartbeats 6400000 in
theorem rchk_7 (d : Dg) (p : Option Addr) (n c : Nat) (w : World) (hd : Bts w p n c d.data) (hk : d.kind = 7) :
    Calls Try.prog 27 #[.agg (dgl d p c).toArray] w fun e w' => e = .returned (.int .i64 (chk d)) ∧ Kept [] w w' := by
  have hc := Lib.hid (chk_of d ((d.k = 0 ∧ d.m = 0 ∧ d.index = 0) ∧ d.data.length = 0 ∧ d.a = 0 ∧ d.b = 0) (by omega) (by omega) (by
    unfold formP
    rw [if_neg (by omega), if_neg (by omega), if_neg (by omega), if_pos hk]))
  obtain rfl := hd.hlen
  have htop := hd.htop
  have hle := hd.hle
  unfold maxLen at htop
  have hb := Blk.new w (dgl d p c) 25
  have c0 := hb.cell (show (dgl d p c)[0]? = some (.int .i64 d.kind) from rfl)
  have c3 := hb.cell (show (dgl d p c)[3]? = some (.int .i64 d.path) from rfl)
  have c5 := hb.cell (show (dgl d p c)[5]? = some (.int .u32 d.a) from rfl)
  have c6 := hb.cell (show (dgl d p c)[6]? = some (.int .u32 d.b) from rfl)
  have c7 := hb.cell (show (dgl d p c)[7]? = some (.int .i64 d.k) from rfl)
  have c8 := hb.cell (show (dgl d p c)[8]? = some (.int .i64 d.m) from rfl)
  have c9 := hb.cell (show (dgl d p c)[9]? = some (.int .i64 d.index) from rfl)
  have c10 := hb.cell (show (dgl d p c)[10]? = some (.slice p d.data.length c) from rfl)
  clear hb
  have g0 : decide (d.kind < 1) = false := by simp; omega
  have g1 : ¬ 8 < d.kind := by omega
  have k1 : (d.kind == 1) = false := by simp; omega
  have k6 : (d.kind == 6) = false := by simp; omega
  have k2 : (d.kind == 2) = false := by simp; omega
  have k3 : (d.kind == 3) = false := by simp; omega
  have k4 : (d.kind == 4) = false := by simp; omega
  have k5 : (d.kind == 5) = false := by simp; omega
  have k7 : (d.kind == 7) = true := by simp; omega
  clear hk
  go_enter Try.func27, Try.ntmps27
  go_wp2
  all_goals
    try simp only [beq_iff_eq] at *
    try simp only [beq_eq_false_iff_ne] at *
    go_ret
    refine ⟨?_, (Kept.refl _ _).alloc _⟩
    rw [hc.out]
    first | (rw [if_pos (by omega)]; rfl) | (rw [if_neg (by omega)]; rfl)
set_option maxRecDepth 100000 in
set_option maxHeartbeats 6400000 in
theorem rchk_8 (d : Dg) (p : Option Addr) (n c : Nat) (w : World) (hd : Bts w p n c d.data) (hk : d.kind = 8) :
    Calls Try.prog 27 #[.agg (dgl d p c).toArray] w fun e w' => e = .returned (.int .i64 (chk d)) ∧ Kept [] w w' := by
  have hc := Lib.hid (chk_of d ((d.k = 0 ∧ d.m = 0 ∧ d.index = 0) ∧ d.data.length = 0 ∧ d.b = 0) (by omega) (by omega) (by
    unfold formP
    rw [if_neg (by omega), if_neg (by omega), if_neg (by omega), if_neg (by omega), if_pos hk]))
  obtain rfl := hd.hlen
  have htop := hd.htop
  have hle := hd.hle
  unfold maxLen at htop
  have hb := Blk.new w (dgl d p c) 25
  have c0 := hb.cell (show (dgl d p c)[0]? = some (.int .i64 d.kind) from rfl)
  have c3 := hb.cell (show (dgl d p c)[3]? = some (.int .i64 d.path) from rfl)
  have c5 := hb.cell (show (dgl d p c)[5]? = some (.int .u32 d.a) from rfl)
  have c6 := hb.cell (show (dgl d p c)[6]? = some (.int .u32 d.b) from rfl)
  have c7 := hb.cell (show (dgl d p c)[7]? = some (.int .i64 d.k) from rfl)
  have c8 := hb.cell (show (dgl d p c)[8]? = some (.int .i64 d.m) from rfl)
  have c9 := hb.cell (show (dgl d p c)[9]? = some (.int .i64 d.index) from rfl)
  have c10 := hb.cell (show (dgl d p c)[10]? = some (.slice p d.data.length c) from rfl)
  clear hb
  have g0 : decide (d.kind < 1) = false := by simp; omega
  have g1 : ¬ 8 < d.kind := by omega
  have k1 : (d.kind == 1) = false := by simp; omega
  have k6 : (d.kind == 6) = false := by simp; omega
  have k2 : (d.kind == 2) = false := by simp; omega
  have k3 : (d.kind == 3) = false := by simp; omega
  have k4 : (d.kind == 4) = false := by simp; omega
  have k5 : (d.kind == 5) = false := by simp; omega
  have k7 : (d.kind == 7) = false := by simp; omega
  have k8 : (d.kind == 8) = true := by simp; omega
  clear hk
  go_enter Try.func27, Try.ntmps27
  go_wp2
  all_goals
    try simp only [beq_iff_eq] at *
    try simp only [beq_eq_false_iff_ne] at *
    go_ret
    refine ⟨?_, (Kept.refl _ _).alloc _⟩
    rw [hc.out]
    first | (rw [if_pos (by omega)]; rfl) | (rw [if_neg (by omega)]; rfl)
set_option maxRecDepth 100000 in
set_option maxHeartbeats 6400000 in
theorem rchk_2 (d : Dg) (p : Option Addr) (n c : Nat) (w : World) (hd : Bts w p n c d.data) (hk : d.kind = 2) :
    Calls Try.prog 27 #[.agg (dgl d p c).toArray] w fun e w' => e = .returned (.int .i64 (chk d)) ∧ Kept [] w w' := by
  have hc := Lib.hid (chk_of d (1 ≤ d.k ∧ d.k ≤ 16 ∧ 0 ≤ d.m ∧ d.m ≤ 16 ∧ 1 ≤ d.data.length ∧ d.data.length ≤ 1200 ∧ 0 ≤ d.index ∧ d.index < d.k) (by omega) (by omega) (by
    unfold formP
    rw [if_pos (by omega)]; unfold shardP; omega))
  obtain rfl := hd.hlen
  have htop := hd.htop
  have hle := hd.hle
  unfold maxLen at htop
  have hb := Blk.new w (dgl d p c) 25
  have c0 := hb.cell (show (dgl d p c)[0]? = some (.int .i64 d.kind) from rfl)
  have c3 := hb.cell (show (dgl d p c)[3]? = some (.int .i64 d.path) from rfl)
  have c5 := hb.cell (show (dgl d p c)[5]? = some (.int .u32 d.a) from rfl)
  have c6 := hb.cell (show (dgl d p c)[6]? = some (.int .u32 d.b) from rfl)
  have c7 := hb.cell (show (dgl d p c)[7]? = some (.int .i64 d.k) from rfl)
  have c8 := hb.cell (show (dgl d p c)[8]? = some (.int .i64 d.m) from rfl)
  have c9 := hb.cell (show (dgl d p c)[9]? = some (.int .i64 d.index) from rfl)
  have c10 := hb.cell (show (dgl d p c)[10]? = some (.slice p d.data.length c) from rfl)
  clear hb
  have g0 : decide (d.kind < 1) = false := by simp; omega
  have g1 : ¬ 8 < d.kind := by omega
  have k1 : (d.kind == 1) = false := by simp; omega
  have k6 : (d.kind == 6) = false := by simp; omega
  have k2 : (d.kind == 2) = true := by simp; omega
  clear hk
  go_enter Try.func27, Try.ntmps27
  go_wp2
  all_goals
    try simp only [beq_iff_eq] at *
    try simp only [beq_eq_false_iff_ne] at *
    go_ret
    refine ⟨?_, (Kept.refl _ _).alloc _⟩
    rw [hc.out]
    first | (rw [if_pos (by omega)]; rfl) | (rw [if_neg (by omega)]; rfl)
set_option maxRecDepth 100000 in
set_option maxHeartbeats 6400000 in
theorem rchk_3 (d : Dg) (p : Option Addr) (n c : Nat) (w : World) (hd : Bts w p n c d.data) (hk : d.kind = 3) :
    Calls Try.prog 27 #[.agg (dgl d p c).toArray] w fun e w' => e = .returned (.int .i64 (chk d)) ∧ Kept [] w w' := by
  have hc := Lib.hid (chk_of d (1 ≤ d.k ∧ d.k ≤ 16 ∧ 0 ≤ d.m ∧ d.m ≤ 16 ∧ 1 ≤ d.data.length ∧ d.data.length ≤ 1200 ∧ d.k ≤ d.index ∧ d.index < d.k + d.m) (by omega) (by omega) (by
    unfold formP
    rw [if_pos (by omega)]; unfold shardP; omega))
  obtain rfl := hd.hlen
  have htop := hd.htop
  have hle := hd.hle
  unfold maxLen at htop
  have hb := Blk.new w (dgl d p c) 25
  have c0 := hb.cell (show (dgl d p c)[0]? = some (.int .i64 d.kind) from rfl)
  have c3 := hb.cell (show (dgl d p c)[3]? = some (.int .i64 d.path) from rfl)
  have c5 := hb.cell (show (dgl d p c)[5]? = some (.int .u32 d.a) from rfl)
  have c6 := hb.cell (show (dgl d p c)[6]? = some (.int .u32 d.b) from rfl)
  have c7 := hb.cell (show (dgl d p c)[7]? = some (.int .i64 d.k) from rfl)
  have c8 := hb.cell (show (dgl d p c)[8]? = some (.int .i64 d.m) from rfl)
  have c9 := hb.cell (show (dgl d p c)[9]? = some (.int .i64 d.index) from rfl)
  have c10 := hb.cell (show (dgl d p c)[10]? = some (.slice p d.data.length c) from rfl)
  clear hb
  have g0 : decide (d.kind < 1) = false := by simp; omega
  have g1 : ¬ 8 < d.kind := by omega
  have k1 : (d.kind == 1) = false := by simp; omega
  have k6 : (d.kind == 6) = false := by simp; omega
  have k2 : (d.kind == 2) = false := by simp; omega
  have k3 : (d.kind == 3) = true := by simp; omega
  clear hk
  go_enter Try.func27, Try.ntmps27
  go_wp2
  all_goals
    try simp only [beq_iff_eq] at *
    try simp only [beq_eq_false_iff_ne] at *
    go_ret
    refine ⟨?_, (Kept.refl _ _).alloc _⟩
    rw [hc.out]
    first | (rw [if_pos (by omega)]; rfl) | (rw [if_neg (by omega)]; rfl)
end Go.Proofs.Ytpedenaaiinakaa
