import Derived.Test.YtcjakhlalmlklaaCrcN
import Derived.Test.YtcjakhlalmlklaaCrcQ
import Derived.Deep.MidRow
import Derived.Laws.Tables
namespace Go.Proofs.Ytcjakhlalmlklaa
open Go.RowKit
/-- A matrix of bits: what each bit comes to. -/
def mat (f : Nat → Nat) : List Value := tab 32 fun i => .int .u32 (f i : Nat)
def matv (f : Nat → Nat) : Array Value := (mat f).toArray
/-- A matrix by the k lowest bits of a remainder. -/
def mapp (f : Nat → Nat) : Nat → Nat → Nat
  | 0, _ => 0
  | k + 1, r => if r / 2 ^ k % 2 = 1 then mapp f k r ^^^ f k else mapp f k r
theorem mapp_lt {f : Nat → Nat} (hf : ∀ i, i < 32 → f i < 4294967296) (r : Nat) : ∀ k, k ≤ 32 → mapp f k r < 4294967296
  | 0, _ => by simp [mapp]
  | k + 1, h => by
    have ih := mapp_lt hf r k (by omega)
    unfold mapp
    split
    · exact xor_lt ih (hf k (by omega))
    · exact ih
theorem mat_get (f : Nat → Nat) {i : Nat} (h : i < 32) : (mat f)[i]? = some (.int .u32 (f i : Nat)) := tab_get h
theorem bit_and2 {m k : Nat} (hm : m < 4294967296) : bits .and .u32 ((m : Int) / 2 ^ k) 1 = ((m / 2 ^ k % 2 : Nat) : Int) := by
  have h : m / 2 ^ k < 4294967296 := Nat.lt_of_le_of_lt (Nat.div_le_self _ _) hm
  have e := and1 h
  rw [← e, Int.natCast_ediv, Int.natCast_pow]; rfl
set_option maxRecDepth 100000 in
set_option maxHeartbeats 800000 in
theorem times_any (f : Nat → Nat) (r : Nat) (w : World) (hf : ∀ i, i < 32 → f i < 4294967296) (hr : r < 4294967296) :
    Calls Try.prog 26 #[.agg (matv f), .int .u32 r] w fun e w' => e = .returned (.int .u32 (mapp f 32 r : Nat)) ∧ Kept [] w w' := by
  have hf' := Lib.hid hf
  clear hf
  go_enter Try.func26, Try.ntmps26
  go_wp2
  have hb0 : Blk (w.alloc (.cells (matv f) 42)) w.heap.size (mat f) 42 := Blk.new w (mat f) _
  go_loop [5, 7] (fun v i => ∃ k : Nat, k ≤ 32 ∧ i = .int .i64 k ∧ v = .int .u32 (mapp f k r : Nat)) (fun _ i => 32 - (intOf i).toNat)
  case atStart => exact ⟨0, by omega, rfl, rfl⟩
  case round =>
    obtain ⟨k, hk, rfl, rfl⟩ := hrel
    have hlt := mapp_lt hf'.out r k hk
    by_cases hk8 : k < 32
    · have hcell := hb0.cell (mat_get f hk8)
      have hfk := hf'.out k hk8
      by_cases hbit : r / 2 ^ k % 2 = 1
      · have h1 : bits .and .u32 ((r : Int) / 2 ^ k) 1 = 1 := by rw [bit_and2 hr, hbit]; rfl
        have h2 := Lib.hid (show mapp f (k + 1) r = mapp f k r ^^^ f k by rw [mapp, if_pos hbit])
        have h3 := u32_xor_nat (mapp f k r) (f k) hlt hfk
        clear hbit
        go_wp2
        go_round
        case rel => exact ⟨k + 1, by omega, by go_num, by rw [h2.out]⟩
        case measure => simp [intOf] <;> omega
      · have h1 : bits .and .u32 ((r : Int) / 2 ^ k) 1 = 0 := by rw [bit_and2 hr, show r / 2 ^ k % 2 = 0 by omega]; rfl
        have h2 := Lib.hid (show mapp f (k + 1) r = mapp f k r by rw [mapp, if_neg hbit])
        clear hbit
        go_wp2
        go_round
        case rel => exact ⟨k + 1, by omega, by go_num, by rw [h2.out]⟩
        case measure => simp [intOf] <;> omega
    · obtain rfl : k = 32 := by omega
      go_wp2
      go_ret
      exact ⟨rfl, (Kept.refl _ _).alloc _⟩

theorem mat_len (f : Nat → Nat) : (mat f).length = 32 := tab_len _ _
theorem matv_size (f : Nat → Nat) : (matv f).size = 32 := by simp [matv, mat_len]
theorem mat_one (f : Nat → Nat) : ∀ v ∈ mat f, v.oneCell' = true := by
  intro v hv
  simp only [mat, tab, List.mem_map] at hv
  obtain ⟨i, _, rfl⟩ := hv
  rfl
theorem info32 : (Try.prog.info? 42).map (·.size) = some 32 := by kernel_rfl
theorem zero32 (w : World) : (zeroValue 42).run Try.prog w = .ok (.agg (matv fun _ => 0)) w := by kernel_rfl
theorem load_mat {w : World} {ops : Array Oper} {rest : List Oper} {o : Oper} {a : Act} {Q : Exit → Act → World → Prop} (hgd : o.guard = none) (x : Operand) (ho : o.op = .load 42 x)
    (g : Nat) (hx : a.eval x = .pointer (some ⟨g, 0, none⟩)) (f : Nat → Nat) (hb : Blk w g (mat f) 42) (h : wpList Try.prog ops Q rest (a.put o.dst (.agg (matv f))) w) : wpList Try.prog ops Q (o :: rest) a w :=
  wpList_load_row hgd 42 x ho g hx 42 (matv f) (0, 0) _ hb Try.underlying42 rfl (by rw [matv_size]; exact info32) h
theorem store_mat {w : World} {ops : Array Oper} {rest : List Oper} {o : Oper} {a : Act} {Q : Exit → Act → World → Prop} (hgd : o.guard = none) (x y : Operand) (ho : o.op = .store 42 x y)
    (g : Nat) (hx : a.eval x = .pointer (some ⟨g, 0, none⟩)) (f f' : Nat → Nat) (hy : a.eval y = .agg (matv f)) (hb : Blk w g (mat f') 42)
    (h : ∀ w', Blk w' g (mat f) 42 → Kept [g] w w' → wpList Try.prog ops Q rest (a.put o.dst undef) w') : wpList Try.prog ops Q (o :: rest) a w :=
  wpList_store_mid hgd 42 x y ho g 0 (matv f) hx hy (hb.there (by rw [matv_size, mat_len]; omega)) (by rw [matv_size]; exact info32) (by unfold matv; exact all_oneCell_toArray (mat_one f))
    (h _ (by
      have e := hb.setCells 0 (mat f)
      rw [setAll_all _ _ (by rw [mat_len, mat_len])] at e
      exact e) ((Kept.refl _ _).setCells (by simp) 0 _))
theorem pow_u32 {j : Nat} (hlt : j < 32) : IntKind.u32.wrap ((2 : Int) ^ j) = ((ones 0 (2 ^ j) : Nat) : Int) := by
  show IntKind.u32.wrap ((2 : Int) ^ j) = ((2 ^ j : Nat) : Int)
  have h3 : 2 ^ j ≤ 2 ^ 31 := Nat.pow_le_pow_right (by omega) (by omega)
  have h4 : ((2 ^ j : Nat) : Int) = (2 : Int) ^ j := by rw [Int.natCast_pow]; rfl
  rw [← h4, IntKind.wrap_u32']
  generalize 2 ^ j = m at *
  omega
theorem pow_lt32 {j : Nat} (hlt : j < 32) : 2 ^ j < 4294967296 := Nat.lt_of_lt_of_le (Nat.pow_lt_pow_right (by omega) hlt) (by decide)
theorem mat_step (f : Nat → Nat) (j : Nat) (h : j < 32) : (mat fun i => if i < j then f i else 0).set j (.int .u32 (f j : Nat)) = mat fun i => if i < j + 1 then f i else 0 := by
  refine tab_set h (by dsimp only; rw [if_pos (by omega)]) fun i hi hne => ?_
  dsimp only
  by_cases h1 : i < j
  · rw [if_pos h1, if_pos (by omega)]
  · rw [if_neg h1, if_neg (by omega)]
theorem mat_full (f : Nat → Nat) : (mat fun i => if i < 32 then f i else 0) = mat f := tab_ext fun i hi => by dsimp only; rw [if_pos hi]
set_option maxRecDepth 100000 in
set_option maxHeartbeats 800000 in
theorem shift_neg (n : Int) (hn : n < 0) (w : World) :
    Calls Try.prog 22 #[.int .i64 n] w fun e w' => e = .returned (.agg (matv fun i => ones 0 (2 ^ i))) ∧ Kept [] w w' := by
  have hz := zero32
  go_enter Try.func22, Try.ntmps22
  go_wp2
  go_loopw [6] (fun v wr => ∃ j : Nat, j ≤ 32 ∧ v = .int .i64 j ∧ Blk wr w.heap.size (mat fun _ => 0) 42 ∧ Blk wr (w.heap.size + 1) (mat fun i => if i < j then ones 0 (2 ^ i) else 0) 42 ∧ Kept [] w wr) (fun v _ => 32 - (intOf v).toNat)
  case atStart => exact ⟨0, by omega, rfl, (Blk.new w (mat fun _ => 0) _).alloc _, by
    have h := Blk.new (w.alloc (.cells (matv fun _ => 0) 42)) (mat fun _ => 0) 42
    rw [World.size_alloc] at h
    exact h, ((Kept.refl _ _).alloc _).alloc _⟩
  case round =>
    obtain ⟨j, hj, rfl, hb0, hb1, hkr⟩ := hrel
    clear hz
    by_cases hlt : j < 32
    · have hpw := pow_u32 hlt
      have hpl := pow_lt32 hlt
      obtain ⟨wo, rfl⟩ : ∃ wo : World, wo = wr := ⟨_, rfl⟩
      go_wp2
      go_loop [5, 14] (fun v i => ∃ t : Nat, t ≤ 0 ∧ i = .int .i64 t ∧ v = .int .u32 (ones t (2 ^ j) : Nat)) (fun _ i => 0 - (intOf i).toNat)
      case atStart => exact ⟨0, by omega, rfl, rfl⟩
      case round =>
        obtain ⟨t, ht, rfl, rfl⟩ := hrel
        have hlr := ones_lt hpl t
        by_cases htl : t < 0
        · exact absurd htl (Nat.not_lt_zero _)
        · obtain rfl : t = 0 := by omega
          have hcell := hb1.cell (mat_get _ hlt)
          have hfree := hb1.free j
          clear hpw
          go_wp2
          go_roundw
          case rel => exact ⟨j + 1, by omega, by go_num, hb0.set_ne (by simp) _, by rw [← mat_step _ _ hlt]; exact hb1.set j _, hkr.setCell (p := ⟨_, _, none⟩) (.inr (Nat.le_succ _)) _⟩
          case measure => simp [intOf] <;> omega
    · obtain rfl : j = 32 := by omega
      rw [mat_full] at hb1
      go_wp2_with (first | (refine load_mat rfl (.tmp 3) rfl (w.heap.size + 1) rfl _ hb1 ?_) | (refine store_mat rfl (.tmp 2) (.tmp 29) rfl w.heap.size rfl _ _ rfl hb0 ?_))
      intro w2 hb2 hk2
      go_wp2
      refine bodyPost_ret (v := .agg (matv _)) (results_cell_row rfl _ _ w.heap.size 42 (matv _) (0, 0) _ rfl hb2 Try.underlying42 rfl (by rw [matv_size]; exact info32)) rfl ⟨rfl, hkr.trans hk2 (fun _ h => h) (fun x h => by simp at h; right; omega)⟩
set_option maxRecDepth 100000 in
set_option maxHeartbeats 800000 in
theorem shift_mid (k : Nat) (hn : k ≤ 64) (w : World) :
    Calls Try.prog 22 #[.int .i64 k] w fun e w' => e = .returned (.agg (matv fun i => ones k (2 ^ i))) ∧ Kept [] w w' := by
  have hz := zero32
  go_enter Try.func22, Try.ntmps22
  go_wp2
  go_loopw [6] (fun v wr => ∃ j : Nat, j ≤ 32 ∧ v = .int .i64 j ∧ Blk wr w.heap.size (mat fun _ => 0) 42 ∧ Blk wr (w.heap.size + 1) (mat fun i => if i < j then ones k (2 ^ i) else 0) 42 ∧ Kept [] w wr) (fun v _ => 32 - (intOf v).toNat)
  case atStart => exact ⟨0, by omega, rfl, (Blk.new w (mat fun _ => 0) _).alloc _, by
    have h := Blk.new (w.alloc (.cells (matv fun _ => 0) 42)) (mat fun _ => 0) 42
    rw [World.size_alloc] at h
    exact h, ((Kept.refl _ _).alloc _).alloc _⟩
  case round =>
    obtain ⟨j, hj, rfl, hb0, hb1, hkr⟩ := hrel
    clear hz
    by_cases hlt : j < 32
    · have hpw := pow_u32 hlt
      have hpl := pow_lt32 hlt
      obtain ⟨wo, rfl⟩ : ∃ wo : World, wo = wr := ⟨_, rfl⟩
      go_wp2
      go_loop [5, 14] (fun v i => ∃ t : Nat, t ≤ k ∧ i = .int .i64 t ∧ v = .int .u32 (ones t (2 ^ j) : Nat)) (fun _ i => k - (intOf i).toNat)
      case atStart => exact ⟨0, by omega, rfl, rfl⟩
      case round =>
        obtain ⟨t, ht, rfl, rfl⟩ := hrel
        have hlr := ones_lt hpl t
        by_cases htl : t < k
        · by_cases ho : ones t (2 ^ j) % 2 = 1
          · have h3 := and1_odd hlr ho
            have h4 := one_odd hlr ho
            have ho' := Lib.hid ho
            clear ho hpw
            go_wp2
            go_round
            case rel => exact ⟨t + 1, by omega, by go_num, rfl⟩
            case measure => simp [intOf] <;> omega
          · have h3 := and1_even hlr ho
            have h4 := one_even ho
            have ho' := Lib.hid ho
            clear ho hpw
            go_wp2
            go_round
            case rel => exact ⟨t + 1, by omega, by go_num, rfl⟩
            case measure => simp [intOf] <;> omega
        · obtain rfl : t = k := by omega
          have hcell := hb1.cell (mat_get _ hlt)
          have hfree := hb1.free j
          clear hpw
          go_wp2
          go_roundw
          case rel => exact ⟨j + 1, by omega, by go_num, hb0.set_ne (by simp) _, by rw [← mat_step _ _ hlt]; exact hb1.set j _, hkr.setCell (p := ⟨_, _, none⟩) (.inr (Nat.le_succ _)) _⟩
          case measure => simp [intOf] <;> omega
    · obtain rfl : j = 32 := by omega
      rw [mat_full] at hb1
      go_wp2_with (first | (refine load_mat rfl (.tmp 3) rfl (w.heap.size + 1) rfl _ hb1 ?_) | (refine store_mat rfl (.tmp 2) (.tmp 29) rfl w.heap.size rfl _ _ rfl hb0 ?_))
      intro w2 hb2 hk2
      go_wp2
      refine bodyPost_ret (v := .agg (matv _)) (results_cell_row rfl _ _ w.heap.size 42 (matv _) (0, 0) _ rfl hb2 Try.underlying42 rfl (by rw [matv_size]; exact info32)) rfl ⟨rfl, hkr.trans hk2 (fun _ h => h) (fun x h => by simp at h; right; omega)⟩
set_option maxRecDepth 100000 in
set_option maxHeartbeats 800000 in
theorem shift_big (n : Int) (hn : 64 < n) (h2 : n ≤ 9223372036854775807) (w : World) :
    Calls Try.prog 22 #[.int .i64 n] w fun e w' => e = .returned (.agg (matv fun i => ones 64 (2 ^ i))) ∧ Kept [] w w' := by
  have hz := zero32
  go_enter Try.func22, Try.ntmps22
  go_wp2
  go_loopw [6] (fun v wr => ∃ j : Nat, j ≤ 32 ∧ v = .int .i64 j ∧ Blk wr w.heap.size (mat fun _ => 0) 42 ∧ Blk wr (w.heap.size + 1) (mat fun i => if i < j then ones 64 (2 ^ i) else 0) 42 ∧ Kept [] w wr) (fun v _ => 32 - (intOf v).toNat)
  case atStart => exact ⟨0, by omega, rfl, (Blk.new w (mat fun _ => 0) _).alloc _, by
    have h := Blk.new (w.alloc (.cells (matv fun _ => 0) 42)) (mat fun _ => 0) 42
    rw [World.size_alloc] at h
    exact h, ((Kept.refl _ _).alloc _).alloc _⟩
  case round =>
    obtain ⟨j, hj, rfl, hb0, hb1, hkr⟩ := hrel
    clear hz
    by_cases hlt : j < 32
    · have hpw := pow_u32 hlt
      have hpl := pow_lt32 hlt
      obtain ⟨wo, rfl⟩ : ∃ wo : World, wo = wr := ⟨_, rfl⟩
      go_wp2
      go_loop [5, 14] (fun v i => ∃ t : Nat, t ≤ 64 ∧ i = .int .i64 t ∧ v = .int .u32 (ones t (2 ^ j) : Nat)) (fun _ i => 64 - (intOf i).toNat)
      case atStart => exact ⟨0, by omega, rfl, rfl⟩
      case round =>
        obtain ⟨t, ht, rfl, rfl⟩ := hrel
        have hlr := ones_lt hpl t
        by_cases htl : t < 64
        · by_cases ho : ones t (2 ^ j) % 2 = 1
          · have h3 := and1_odd hlr ho
            have h4 := one_odd hlr ho
            have ho' := Lib.hid ho
            clear ho hpw
            go_wp2
            go_round
            case rel => exact ⟨t + 1, by omega, by go_num, rfl⟩
            case measure => simp [intOf] <;> omega
          · have h3 := and1_even hlr ho
            have h4 := one_even ho
            have ho' := Lib.hid ho
            clear ho hpw
            go_wp2
            go_round
            case rel => exact ⟨t + 1, by omega, by go_num, rfl⟩
            case measure => simp [intOf] <;> omega
        · obtain rfl : t = 64 := by omega
          have hcell := hb1.cell (mat_get _ hlt)
          have hfree := hb1.free j
          clear hpw
          go_wp2
          go_roundw
          case rel => exact ⟨j + 1, by omega, by go_num, hb0.set_ne (by simp) _, by rw [← mat_step _ _ hlt]; exact hb1.set j _, hkr.setCell (p := ⟨_, _, none⟩) (.inr (Nat.le_succ _)) _⟩
          case measure => simp [intOf] <;> omega
    · obtain rfl : j = 32 := by omega
      rw [mat_full] at hb1
      go_wp2_with (first | (refine load_mat rfl (.tmp 3) rfl (w.heap.size + 1) rfl _ hb1 ?_) | (refine store_mat rfl (.tmp 2) (.tmp 29) rfl w.heap.size rfl _ _ rfl hb0 ?_))
      intro w2 hb2 hk2
      go_wp2
      refine bodyPost_ret (v := .agg (matv _)) (results_cell_row rfl _ _ w.heap.size 42 (matv _) (0, 0) _ rfl hb2 Try.underlying42 rfl (by rw [matv_size]; exact info32)) rfl ⟨rfl, hkr.trans hk2 (fun _ h => h) (fun x h => by simp at h; right; omega)⟩
theorem shift_any (n : Int) (k : Nat) (hk : (n < 0 ∧ k = 0) ∨ (n = (k : Int) ∧ k ≤ 64) ∨ (64 < n ∧ k = 64)) (h2 : n ≤ 9223372036854775807) (w : World) :
    Calls Try.prog 22 #[.int .i64 n] w fun e w' => e = .returned (.agg (matv fun i => ones k (2 ^ i))) ∧ Kept [] w w' := by
  rcases hk with ⟨hn, rfl⟩ | ⟨rfl, hn⟩ | ⟨hn, rfl⟩
  · exact shift_neg n hn w
  · exact shift_mid k hn w
  · exact shift_big n hn h2 w
theorem index_mat (f : Nat → Nat) (k : Nat) (hk : k < 32) (w : World) : (Instr.index 42 (.agg (matv f)) (.int .i64 (k : Int))).run Try.prog w = .ok (.int .u32 (f k : Nat)) w := by
  have hi : (Try.prog.info? 22).map (fun i => (i.zero, i.size, i.bytes)) = some (some (.int .u32 0), 1, 4) := by kernel_rfl
  obtain ⟨i0, h1, h2, h3, h4⟩ := info_parts hi
  have hg : (matv f)[k]? = some (.int .u32 (f k : Nat)) := by unfold matv; simp [mat_get f hk]
  simp [Instr.index, asIntOf, run_underlying (P := Try.prog) Try.underlying42, part, sizeOf, typeInfo, h1, h3, hg]
  intro h
  omega
end Go.Proofs.Ytcjakhlalmlklaa
