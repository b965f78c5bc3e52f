/- The references' numbers of 128 bits with a sign: what each function makes of them. -/
import Derived.Test.YtimplkdmhndalaaProg
import Derived.Test.YtimplkdmhndalaaMem
import Derived.Handy
import Derived.LoopTactic
import Derived.Outline
import Derived.Lib.Hide
import Derived.BigQuiet
import Derived.Laws.BitsAllLaws
namespace Go.Proofs.Ytimplkdmhndalaa
open Go Go.RowKit
def dig (n i : Nat) : Nat := n / 65536 ^ i % 65536
def digs9 (f : Nat → Nat) : List Value := tab 9 fun i => .int .u64 (f i : Nat)
def wideF (neg : Bool) (f : Nat → Nat) : List Value := .bool neg :: digs9 f
def wide (neg : Bool) (n : Nat) : List Value := wideF neg (dig n)
theorem wideF_len (neg : Bool) (f : Nat → Nat) : (wideF neg f).length = 10 := by simp [wideF, digs9, tab_len]
theorem wide_len (neg : Bool) (n : Nat) : (wide neg n).length = 10 := wideF_len _ _
theorem wideF_one (neg : Bool) (f : Nat → Nat) : ∀ v ∈ wideF neg f, v.oneCell' = true := by
  intro v hv
  simp only [wideF, digs9, tab, List.mem_cons, List.mem_map] at hv
  rcases hv with rfl | ⟨i, _, rfl⟩ <;> rfl
theorem wideF_0 (neg : Bool) (f : Nat → Nat) : (wideF neg f)[0]? = some (.bool neg) := rfl
theorem wideF_get (neg : Bool) (f : Nat → Nat) {i : Nat} (h : i < 9) : (wideF neg f)[1 + i]? = some (.int .u64 (f i : Nat)) := by
  rw [Nat.add_comm]; show (digs9 f)[i]? = _; exact tab_get h
theorem wideF_set (neg : Bool) (f g : Nat → Nat) {i : Nat} {x : Nat} (h : i < 9) (hx : x = g i) (hf : ∀ j, j < 9 → j ≠ i → f j = g j) : (wideF neg f).set (1 + i) (.int .u64 (x : Nat)) = wideF neg g := by
  rw [Nat.add_comm]
  show Value.bool neg :: (digs9 f).set i _ = _
  unfold wideF digs9
  rw [tab_set (g := fun j => Value.int .u64 (g j : Nat)) h (by rw [hx]) (fun j hj hne => by rw [hf j hj hne])]
theorem wideF_set0 (neg neg' : Bool) (f : Nat → Nat) : (wideF neg f).set 0 (.bool neg') = wideF neg' f := rfl
theorem wideF_ext (neg : Bool) {f g : Nat → Nat} (h : ∀ j, j < 9 → f j = g j) : wideF neg f = wideF neg g := by
  unfold wideF digs9
  rw [tab_ext (fun j hj => by rw [h j hj])]
theorem infoW : (Try.prog.info? 83).map (·.size) = some 10 := by kernel_rfl
theorem zeroW (w : World) : (zeroValue 83).run Try.prog w = .ok (.agg (wideF false fun _ => 0).toArray) w := by kernel_rfl
/-- What a number with its sign is. -/
def wval (neg : Bool) (n : Nat) : Int := if neg then -(n : Int) else n
theorem dig_lt (n i : Nat) : dig n i < 65536 := Nat.mod_lt _ (by omega)
theorem dig_zero {n i : Nat} (h : n < 65536 ^ i) : dig n i = 0 := by unfold dig; rw [Nat.div_eq_of_lt h]
theorem div_next (n i : Nat) : n / 65536 ^ (i + 1) = n / 65536 ^ i / 65536 := by rw [Nat.pow_succ, Nat.div_div_eq_div_mul]
theorem dig_zero' {n i : Nat} (h : n < 18446744073709551616) (hi : 4 ≤ i) : dig n i = 0 :=
  dig_zero (Nat.lt_of_lt_of_le h (by rw [show 18446744073709551616 = 65536 ^ 4 by decide]; exact Nat.pow_le_pow_right (by omega) hi))
theorem load_w {w : World} {ops : Array Oper} {rest : List Oper} {o : Oper} {a : Act} {Q : Exit → Act → World → Prop} (hgd : o.guard = none) (x : Operand) (ho : o.op = .load 83 x)
    (g : Nat) (hx : a.eval x = .pointer (some ⟨g, 0, none⟩)) (neg : Bool) (f : Nat → Nat) (hb : Blk w g (wideF neg f) 83) (h : wpList Try.prog ops Q rest (a.put o.dst (.agg (wideF neg f).toArray)) w) : wpList Try.prog ops Q (o :: rest) a w :=
  load_blk hgd 83 x ho g hx 83 _ _ hb Try.underlying83 rfl (by rw [wideF_len]; exact infoW) h
theorem store_w {w : World} {ops : Array Oper} {rest : List Oper} {o : Oper} {a : Act} {Q : Exit → Act → World → Prop} (hgd : o.guard = none) (x y : Operand) (ho : o.op = .store 83 x y)
    (g : Nat) (hx : a.eval x = .pointer (some ⟨g, 0, none⟩)) (neg neg' : Bool) (f f' : Nat → Nat) (hy : a.eval y = .agg (wideF neg f).toArray) (hb : Blk w g (wideF neg' f') 83)
    (h : ∀ w', Blk w' g (wideF neg f) 83 → Kept [g] w w' → wpList Try.prog ops Q rest (a.put o.dst undef) w') : wpList Try.prog ops Q (o :: rest) a w :=
  store_blk hgd 83 x y ho g hx 83 _ _ hy hb (by rw [wideF_len, wideF_len]) (by rw [wideF_len]; exact infoW) (wideF_one neg f) h
theorem ret_w {w : World} {fn : Func} {p : Tmp} (h : fn.results = #[.cell p 83]) (tmps : Array Value) (g : Nat) (neg : Bool) (f : Nat → Nat)
    (hp : tmps.getD p undef = .pointer (some ⟨g, 0, none⟩)) (hb : Blk w g (wideF neg f) 83) : (results fn tmps).run Try.prog w = .ok (.agg (wideF neg f).toArray) w :=
  ret_blk h tmps g 83 _ _ hp hb Try.underlying83 rfl (by rw [wideF_len]; exact infoW)
set_option maxRecDepth 100000 in
set_option maxHeartbeats 800000 in
theorem turn_any (neg : Bool) (f : Nat → Nat) (w : World) :
    Calls Try.prog 45 #[.agg (wideF neg f).toArray] w fun e w' => e = .returned (.agg (wideF (!neg) f).toArray) ∧ Kept [] w w' := by
  have hz := zeroW
  have hb0 := Blk.new w (wideF neg f) 83
  have hb1 := Blk.new w (wideF (!neg) f) 83
  have hb2 := Blk.new (w.alloc (.cells (wideF (!neg) f).toArray 83)) (wideF false fun _ => 0) 83
  rw [World.size_alloc] at hb2
  have c0 := (hb0.alloc (.cells (wideF false fun _ => 0).toArray 83)).cell (wideF_0 neg f)
  have f0 := (hb0.alloc (.cells (wideF false fun _ => 0).toArray 83)).free 0
  go_enter Try.func45, Try.ntmps45
  go_wp2_with (first | (refine load_w rfl (.tmp 1) rfl w.heap.size rfl (!neg) f (hb1.alloc _) ?_) | (refine store_w rfl (.tmp 2) (.tmp 7) rfl (w.heap.size + 1) rfl _ _ _ _ rfl hb2 ?_))
  intro w2 hb3 hk
  go_wp2
  exact bodyPost_ret (ret_w rfl _ (w.heap.size + 1) _ _ rfl hb3) rfl ⟨rfl, (((Kept.refl _ _).alloc _).alloc _).trans hk (fun _ h => h) (fun x h => by simp at h; right; omega)⟩
set_option maxRecDepth 100000 in
set_option maxHeartbeats 800000 in
theorem of_any (n : Int) (N : Nat) (neg : Bool) (w : World) (hn : n = wval neg N) (h0 : neg = decide (n < 0)) (h1 : -9223372036854775808 ≤ n) (h2 : n ≤ 9223372036854775807) :
    Calls Try.prog 44 #[.int .i64 n] w fun e w' => e = .returned (.agg (wide neg N).toArray) ∧ Kept [] w w' := by
  have hz := zeroW
  have hN : N ≤ 9223372036854775808 := by unfold wval at hn; split at hn <;> omega
  have hfin : wideF neg (fun j => if j < 4 then dig N j else 0) = wide neg N := wideF_ext neg fun j hj => by
    by_cases h4 : j < 4
    · rw [if_pos h4]
    · rw [if_neg h4, dig_zero' (by omega) (by omega)]
  have hfin' := Lib.hid hfin
  clear hfin
  have hb1 := Blk.new (w.alloc (.cells (wideF false fun _ => 0).toArray 83)) (wideF false fun _ => 0) 83
  rw [World.size_alloc] at hb1
  have hb0 := (Blk.new w (wideF false fun _ => 0) 83).alloc (.cells (wideF false fun _ => 0).toArray 83)
  have c0 := hb1.cell (wideF_0 false fun _ => 0)
  have f0 := hb1.free 0
  have hk0 : Kept [] w ((w.alloc (.cells (wideF false fun _ => 0).toArray 83)).alloc (.cells (wideF false fun _ => 0).toArray 83)) := ((Kept.refl _ _).alloc _).alloc _
  have hbt := Blk.new (w.alloc (.cells (wideF false fun _ => 0).toArray 83)) (wideF true fun _ => 0) 83
  rw [World.size_alloc] at hbt
  by_cases hneg : n < 0
  · have hnb : neg = true := by rw [h0]; simpa using hneg
    subst hnb
    have hNn : n = -(N : Int) := by unfold wval at hn; simpa using hn
    have hw1 : IntKind.u64.wrap n = ((18446744073709551616 - N : Nat) : Int) := by rw [IntKind.wrap_u64]; omega
    have hw2 : IntKind.u64.wrap (-((18446744073709551616 - N : Nat) : Int)) = (N : Int) := by rw [IntKind.wrap_u64]; omega
    have hnu : N < 18446744073709551616 := by omega
    clear hN hn h0 hNn
    go_wp2
    go_loopw [4, 5] (fun u i wr => ∃ k : Nat, k ≤ 4 ∧ i = .int .i64 k ∧ u = .int .u64 ((N / 65536 ^ k : Nat) : Int) ∧ Blk wr w.heap.size (wideF false fun _ => 0) 83 ∧ Blk wr (w.heap.size + 1) (wideF true fun j => if j < k then dig N j else 0) 83 ∧ Kept [] w wr) (fun _ i _ => 4 - (intOf i).toNat)
    case atStart => exact ⟨0, by omega, rfl, by simp, (Blk.new w (wideF false fun _ => 0) _).alloc _, hbt, ((Kept.refl _ _).alloc _).alloc _⟩
    case round =>
      obtain ⟨k, hk4, rfl, rfl, ha, hb, hkr⟩ := hrel
      clear hz c0 f0 hb0 hb1 hk0
      by_cases hlt : k < 4
      · have hx : N / 65536 ^ k < 18446744073709551616 := Nat.lt_of_le_of_lt (Nat.div_le_self _ _) (by omega)
        have hd := Lib.hid (div_next N k)
        have hdg := Lib.hid (show N / 65536 ^ k % 65536 = dig N k from rfl)
        generalize N / 65536 ^ k = u at *
        have hcell := hb.cell (wideF_get true _ (show k < 9 by omega))
        have hfree := hb.free (1 + k)
        go_wp2
        go_roundw
        case rel =>
          refine ⟨k + 1, by omega, by go_num, by rw [hd.out]; simp, ha.set_ne (by simp) _, ?_, hkr.setCell (p := ⟨_, _, none⟩) (.inr (Nat.le_succ _)) _⟩
          have h := hb.set (1 + k) (.int .u64 ((u % 65536 : Nat) : Int))
          rw [wideF_set true _ (fun j => if j < k + 1 then dig N j else 0) (show k < 9 by omega) (by rw [hdg.out, if_pos (by omega)]) (fun j hj hne => by
            by_cases h5 : j < k
            · rw [if_pos h5, if_pos (by omega)]
            · rw [if_neg h5, if_neg (by omega)])] at h
          simpa using h
        case measure => simp [intOf] <;> omega
      · obtain rfl : k = 4 := by omega
        rw [hfin'.out] at hb
        go_wp2_with (first | (refine load_w rfl (.tmp 3) rfl (w.heap.size + 1) rfl _ _ hb ?_) | (refine store_w rfl (.tmp 2) (.tmp 24) rfl w.heap.size rfl _ _ _ _ rfl ha ?_))
        intro w2 hb3 hk
        go_wp2
        exact bodyPost_ret (ret_w rfl _ w.heap.size _ _ rfl hb3) rfl ⟨rfl, hkr.trans hk (fun _ h => h) (fun x h => by simp at h; right; omega)⟩
  · have hnb : neg = false := by rw [h0]; simpa using hneg
    subst hnb
    have hNn : n = (N : Int) := by unfold wval at hn; simpa using hn
    have hw1 : IntKind.u64.wrap n = (N : Int) := by rw [IntKind.wrap_u64]; omega
    have hnu : N < 18446744073709551616 := by omega
    clear hN hn h0 hNn c0 f0
    go_wp2
    go_loopw [4, 5] (fun u i wr => ∃ k : Nat, k ≤ 4 ∧ i = .int .i64 k ∧ u = .int .u64 ((N / 65536 ^ k : Nat) : Int) ∧ Blk wr w.heap.size (wideF false fun _ => 0) 83 ∧ Blk wr (w.heap.size + 1) (wideF false fun j => if j < k then dig N j else 0) 83 ∧ Kept [] w wr) (fun _ i _ => 4 - (intOf i).toNat)
    case atStart => exact ⟨0, by omega, rfl, by simp, hb0, hb1, hk0⟩
    case round =>
      obtain ⟨k, hk4, rfl, rfl, ha, hb, hkr⟩ := hrel
      clear hz hb0 hb1 hk0
      by_cases hlt : k < 4
      · have hx : N / 65536 ^ k < 18446744073709551616 := Nat.lt_of_le_of_lt (Nat.div_le_self _ _) (by omega)
        have hd := Lib.hid (div_next N k)
        have hdg := Lib.hid (show N / 65536 ^ k % 65536 = dig N k from rfl)
        generalize N / 65536 ^ k = u at *
        have hcell := hb.cell (wideF_get false _ (show k < 9 by omega))
        have hfree := hb.free (1 + k)
        go_wp2
        go_roundw
        case rel =>
          refine ⟨k + 1, by omega, by go_num, by rw [hd.out]; simp, ha.set_ne (by simp) _, ?_, hkr.setCell (p := ⟨_, _, none⟩) (.inr (Nat.le_succ _)) _⟩
          have h := hb.set (1 + k) (.int .u64 ((u % 65536 : Nat) : Int))
          rw [wideF_set false _ (fun j => if j < k + 1 then dig N j else 0) (show k < 9 by omega) (by rw [hdg.out, if_pos (by omega)]) (fun j hj hne => by
            by_cases h5 : j < k
            · rw [if_pos h5, if_pos (by omega)]
            · rw [if_neg h5, if_neg (by omega)])] at h
          simpa using h
        case measure => simp [intOf] <;> omega
      · obtain rfl : k = 4 := by omega
        rw [hfin'.out] at hb
        go_wp2_with (first | (refine load_w rfl (.tmp 3) rfl (w.heap.size + 1) rfl _ _ hb ?_) | (refine store_w rfl (.tmp 2) (.tmp 24) rfl w.heap.size rfl _ _ _ _ rfl ha ?_))
        intro w2 hb3 hk
        go_wp2
        exact bodyPost_ret (ret_w rfl _ w.heap.size _ _ rfl hb3) rfl ⟨rfl, hkr.trans hk (fun _ h => h) (fun x h => by simp at h; right; omega)⟩
end Go.Proofs.Ytimplkdmhndalaa
