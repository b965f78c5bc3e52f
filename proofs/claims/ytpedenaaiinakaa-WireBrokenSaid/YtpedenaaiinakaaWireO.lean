import Derived.Test.YtpedenaaiinakaaWireN
namespace Go.Proofs.Ytpedenaaiinakaa
open Go Go.RowKit
attribute [local go_sem ↓] exec_Dg
attribute [local go_sem] goodPtr_at rowAt_at
/-- n bytes from i on, as a number. -/
def fld (o : List UInt8) (i n : Nat) : Nat := beg ((o.drop i).take n)
theorem fld_lt (o : List UInt8) (i n : Nat) : fld o i n < 256 ^ n :=
  Nat.lt_of_lt_of_le (beg_lt _) (Nat.pow_le_pow_right (by omega) (by simp; omega))
def dg0 : Dg := { kind := 0, sess := 0, seq := 0, path := 0, tick := 0, a := 0, b := 0, k := 0, m := 0, index := 0, data := [] }
def rdD (o : List UInt8) : Dg := { kind := fld o 2 1, sess := fld o 4 4, seq := fld o 8 4, path := fld o 3 1, tick := fld o 12 4, a := fld o 16 4, b := fld o 20 4, k := fld o 24 1, m := fld o 25 1, index := fld o 26 1, data := o.drop 29 }
/-- The answer to what was sealed. -/
def opE (s : Nat) (o : List UInt8) : Int := if ¬ fld o 0 2 = 17003 ∨ ¬ fld o 4 4 = s then 71 else if ¬ fld o 27 2 = o.length - 29 then 73 else chk (rdD o)
abbrev zD : Array Value := #[.int .i64 0, .int .u32 0, .int .u32 0, .int .i64 0, .int .u32 0, .int .u32 0, .int .u32 0, .int .i64 0, .int .i64 0, .int .i64 0, .slice none 0 0]
theorem zeroDg (w : World) : (zeroValue 25).run Try.prog w = .ok (.agg #[.int .i64 0, .int .u32 0, .int .u32 0, .int .i64 0, .int .u32 0, .int .u32 0, .int .u32 0, .int .i64 0, .int .i64 0, .int .i64 0, .slice none 0 0]) w := by kernel_rfl
theorem blkZ (w : World) : Blk (w.alloc (.cells #[.int .i64 0, .int .u32 0, .int .u32 0, .int .i64 0, .int .u32 0, .int .u32 0, .int .u32 0, .int .i64 0, .int .i64 0, .int .i64 0, .slice none 0 0] 25)) w.heap.size (dgl dg0 none 0) 25 := Blk.new w (dgl dg0 none 0) 25
theorem infoDg : (Try.prog.info? 25).map (·.size) = some 11 := by kernel_rfl
theorem ret_blk2 {P : Program} {w : World} {fn : Func} {p q : Tmp} {ty : TypeId} (h : fn.results = #[.cell p ty, .tmp q]) (tmps : Array Value) (g : Nat) (T : TypeId) (xs : List Value) (v : Value) (d : TypeDesc)
    (hp : tmps.getD p undef = .pointer (some ⟨g, 0, none⟩)) (hq : tmps.getD q undef = v) (hb : Blk w g xs T)
    (hu : P.underlying ty = some d) (hd : (match d with | .struct _ | .array _ _ => true | _ => false) = true) (hi : (P.info? ty).map (·.size) = some xs.length) :
    (results fn tmps).run P w = .ok (.tuple #[.agg xs.toArray, v]) w := by
  have hp' : tmps[p]?.getD undef = .pointer (some ⟨g, 0, none⟩) := by simpa using hp
  have hq' : tmps[q]?.getD undef = v := by simpa using hq
  simp [results, h, hp', hq', asAddr, run_loadVar_row w g T ty xs.toArray (0, 0) d hb hu hd (by simpa using hi)]
set_option maxRecDepth 100000 in
set_option maxHeartbeats 800000 in
theorem decode_long (t : Nat) (s : Nat) (a : Option Addr) (n c : Nat) (w : World) (h : 1400 < n) :
    Calls Try.prog 19 #[.pointer (some ⟨t, 0, none⟩), .int .u32 s, .slice a n c] w fun e w' => e = .returned (.tuple #[.agg (dgl dg0 none 0).toArray, .int .i64 2]) ∧ Kept [] w w' := by
  have hz := zeroDg
  have h1 : (1400 : Int) < (n : Int) := by omega
  have hb := blkZ w
  go_enter Try.func19, Try.ntmps19
  go_wp2
  exact bodyPost_ret (ret_blk2 rfl _ w.heap.size _ _ _ _ rfl rfl hb Try.underlying25 rfl infoDg) rfl ⟨rfl, (Kept.refl _ _).alloc _⟩
set_option maxRecDepth 100000 in
set_option maxHeartbeats 800000 in
theorem decode_short (t : Nat) (s : Nat) (a : Option Addr) (n c : Nat) (w : World) (h : n < 33) :
    Calls Try.prog 19 #[.pointer (some ⟨t, 0, none⟩), .int .u32 s, .slice a n c] w fun e w' => e = .returned (.tuple #[.agg (dgl dg0 none 0).toArray, .int .i64 70]) ∧ Kept [] w w' := by
  have hz := zeroDg
  have h1 : ¬ (1400 : Int) < (n : Int) := by omega
  have h2 : (n : Int) < 33 := by omega
  have hb := blkZ w
  go_enter Try.func19, Try.ntmps19
  go_wp2
  exact bodyPost_ret (ret_blk2 rfl _ w.heap.size _ _ _ _ rfl rfl hb Try.underlying25 rfl infoDg) rfl ⟨rfl, (Kept.refl _ _).alloc _⟩
set_option maxRecDepth 100000 in
set_option maxHeartbeats 800000 in
theorem decode_sum (t s : Nat) (a : Option Addr) (n m c : Nat) (o : List UInt8) (s0 s1 s2 s3 : UInt8) (w : World) (hl : Bts w a n c (o ++ [s0, s1, s2, s3])) (hm : o.length = m) (hn : n = m + 4) (h1 : 29 ≤ m) (h2 : m ≤ 1396) (ht : Blk w t (tabk 256) 60) (hne : ¬ beg [s3, s2, s1, s0] = mor 0 o) :
    Calls Try.prog 19 #[.pointer (some ⟨t, 0, none⟩), .int .u32 s, .slice a n c] w fun e w' => e = .returned (.tuple #[.agg (dgl dg0 none 0).toArray, .int .i64 20]) ∧ Kept [] w w' := by
  have hz := zeroDg
  have g1 : ¬ (1400 : Int) < (n : Int) := by omega
  have g2 : ¬ (n : Int) < 33 := by omega
  have hb := blkZ w
  have hk0 : Kept [] w (w.alloc (.cells #[.int .i64 0, .int .u32 0, .int .u32 0, .int .i64 0, .int .u32 0, .int .u32 0, .int .u32 0, .int .i64 0, .int .i64 0, .int .i64 0, .slice none 0 0] 25)) := (Kept.refl _ _).alloc _
  have ho : ∀ w1, Kept [] w w1 → Calls Try.prog 32 #[.pointer (some ⟨t, 0, none⟩), .slice a n c] w1 fun e w' => e = .returned (.tuple #[.slice none 0 0, .int .i64 20]) ∧ Kept [] w1 w' := by
    intro w1 hk
    subst hn
    exact open_bad t a m c o s0 s1 s2 s3 _ (hl.kept hk) hm (by omega) (hk.blk ht (by simp)) hne
  have ho := Lib.hid ho
  have hb' := Lib.hid hb
  clear hb hl hm ht hne hn
  go_enter Try.func19, Try.ntmps19
  go_wp2_with fail
  refine (ho.out _ hk0).mono ?_
  rintro e w1 ⟨rfl, hk1⟩
  have hb1 := hk1.blk hb'.out (by simp)
  go_wp2_with (refine store_blk rfl 25 (.tmp 6) (.tmp 31) rfl w.heap.size rfl 25 _ (dgl dg0 none 0) rfl hb1 rfl infoDg (by decide) ?_)
  intro w2 hb2 hk2
  go_wp2
  exact bodyPost_ret (ret_blk2 rfl _ w.heap.size _ _ _ _ rfl rfl hb2 Try.underlying25 rfl infoDg) rfl ⟨rfl, (hk0.trans0 hk1).trans hk2 (fun _ h => h) (fun x h => by simp at h; subst h; exact .inr (Nat.le_refl _))⟩
end Go.Proofs.Ytpedenaaiinakaa
