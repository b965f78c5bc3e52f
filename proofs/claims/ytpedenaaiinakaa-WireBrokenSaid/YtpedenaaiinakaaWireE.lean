import Derived.Test.YtpedenaaiinakaaCrcE
namespace Go.Proofs.Ytpedenaaiinakaa
open Go Go.RowKit
theorem bts2 {w : World} {b : Nat} {s0 s1 : UInt8} {T : TypeId} (h : Blk w b [bv s0, bv s1] T) : Bts w (some ⟨b, 0, none⟩) 2 2 [s0, s1] :=
  Bts.ofBlk (l := [s0, s1]) (cap := 2) h (by simp) (by unfold maxLen; omega) (fun i hi => by
    match i, hi with
    | 0, _ => rfl
    | 1, _ => rfl)
theorem Bts.capped {w : World} {a : Option Addr} {n c : Nat} {l : List UInt8} (h : Bts w a n c l) : Bts w a n n l :=
  ⟨h.hlen, Nat.le_refl _, Nat.le_trans h.hle h.htop, fun e => by have := h.hnil e; have := h.hle; omega, h.hcell⟩
set_option maxHeartbeats 800000 in
theorem put16_any (a : Option Addr) (n c : Nat) (l : List UInt8) (x : Nat) (w : World) (hl : Bts w a n c l) (hn : l.length ≤ 1000000) :
    Calls Try.prog 23 #[.slice a n c, .int .u16 x] w fun e w' => ∃ v, e = .returned v ∧ w'.ownsRow w.heap.size 5 1 v (n + 2) ((l ++ [lob (x / 256), lob x]).map bv) ∧ Kept [] w w' := by
  have hle := hl.hle
  have htop := hl.htop
  unfold maxLen at htop
  obtain rfl := hl.hlen
  have v0 : IntKind.u8.wrap (x : Int) = ((lob x).toNat : Int) := by rw [IntKind.wrap_u8', lob_nat]; omega
  have v1 : IntKind.u8.wrap ((x : Int) / 256) = ((lob (x / 256)).toNat : Int) := by rw [IntKind.wrap_u8', lob_nat]; omega
  go_enter Try.func23, Try.ntmps23
  go_wp2_with (at_builtin; refine wpList_grow8 rfl (.tmp 10) (.tmp 16) rfl a l.length l.length l rfl ?_ (some ⟨w.heap.size, 0, none⟩) 2 2 [lob (x / 256), lob x] rfl ?_ (by omega) (by omega) (by omega) ?_)
  · exact (hl.kept ((Kept.refl _ _).alloc _)).capped
  · exact bts2 (Blk.new' _ _ _)
  · intro v' w2 hown hgr
    go_wp2
    go_ret
    exact ⟨v', rfl, by rw [List.map_append]; exact own_down hown (Nat.le_succ _), Kept.grown ((Kept.refl _ _).alloc _) hgr (by simp)⟩
set_option maxHeartbeats 800000 in
theorem put32_any (a : Option Addr) (n c : Nat) (l : List UInt8) (x : Nat) (w : World) (hl : Bts w a n c l) (hn : l.length ≤ 1000000) :
    Calls Try.prog 24 #[.slice a n c, .int .u32 x] w fun e w' => ∃ v, e = .returned v ∧ w'.ownsRow w.heap.size 5 1 v (n + 4) ((l ++ [lob (x / 16777216), lob (x / 65536), lob (x / 256), lob x]).map bv) ∧ Kept [] w w' := by
  have hle := hl.hle
  have htop := hl.htop
  unfold maxLen at htop
  obtain rfl := hl.hlen
  have v0 : IntKind.u8.wrap (x : Int) = ((lob x).toNat : Int) := by rw [IntKind.wrap_u8', lob_nat]; omega
  have v1 : IntKind.u8.wrap ((x : Int) / 256) = ((lob (x / 256)).toNat : Int) := by rw [IntKind.wrap_u8', lob_nat]; omega
  have v2 : IntKind.u8.wrap ((x : Int) / 65536) = ((lob (x / 65536)).toNat : Int) := by rw [IntKind.wrap_u8', lob_nat]; omega
  have v3 : IntKind.u8.wrap ((x : Int) / 16777216) = ((lob (x / 16777216)).toNat : Int) := by rw [IntKind.wrap_u8', lob_nat]; omega
  go_enter Try.func24, Try.ntmps24
  go_wp2_with (at_builtin; refine wpList_grow8 rfl (.tmp 10) (.tmp 22) rfl a l.length l.length l rfl ?_ (some ⟨w.heap.size, 0, none⟩) 4 4 [lob (x / 16777216), lob (x / 65536), lob (x / 256), lob x] rfl ?_ (by omega) (by omega) (by omega) ?_)
  · exact (hl.kept ((Kept.refl _ _).alloc _)).capped
  · exact bts4 (Blk.new' _ _ _)
  · intro v' w2 hown hgr
    go_wp2
    go_ret
    exact ⟨v', rfl, by rw [List.map_append]; exact own_down hown (Nat.le_succ _), Kept.grown ((Kept.refl _ _).alloc _) hgr (by simp)⟩
end Go.Proofs.Ytpedenaaiinakaa
namespace Go.Proofs.Ytpedenaaiinakaa
open Go Go.RowKit
/-- What the call owns from block 'base' on reads as l. -/
def OwnB (w : World) (base : Nat) (v : Value) (n : Nat) (l : List UInt8) : Prop := w.ownsRow base 5 1 v n (l.map bv)
theorem OwnB.bts {w : World} {base : Nat} {v : Value} {n : Nat} {l : List UInt8} (h : OwnB w base v n l) : ∃ a cap, v = .slice a n cap ∧ Bts w a n cap l := Bts.own h
theorem OwnB.down {w : World} {b b' : Nat} {v : Value} {n : Nat} {l : List UInt8} (h : OwnB w b v n l) (hb : b' ≤ b) : OwnB w b' v n l := own_down h hb
theorem OwnB.kept {w w' : World} {b : Nat} {v : Value} {n : Nat} {l : List UInt8} (h : OwnB w b v n l) (hk : Kept [] w w') : OwnB w' b v n l :=
  World.ownsRow.kept (row := none) h ⟨hk.os, hk.tape, hk.output, hk.size, fun k hlt _ => hk.block k hlt (by simp)⟩ (by cases h : v.ownBlock <;> simp)
theorem Kept.below {w0 w w' : World} {B : Nat} (h : Kept [] w0 w) (hb : Below B w w') (hB : w0.heap.size ≤ B) : Kept [] w0 w' :=
  ⟨hb.os.trans h.os, hb.tape.trans h.tape, hb.output.trans h.output, Nat.le_trans h.size hb.size, fun k hk hn => by rw [hb.block k (by omega)]; exact h.block k hk hn⟩
theorem Below.ofKept {w w' : World} {B : Nat} (h : Kept [] w w') (hB : B ≤ w.heap.size) : Below B w w' :=
  ⟨h.os, h.tape, h.output, h.size, fun k hk => h.block k (by omega) (by simp)⟩
theorem wpList_appB {w : World} {ops : Array Oper} {rest : List Oper} {o : Oper} {a : Act} {Q : Exit → Act → World → Prop} (hgd : o.guard = none) (s x : Operand)
    (ho : o.op = .call { callee := .builtin .append, args := #[s, x], argTypes := #[23, 23] })
    (base : Nat) (v : Value) (n : Nat) (l : List UInt8) (hs : a.eval s = v) (hown : OwnB w base v n l)
    (ao : Option Addr) (m c : Nat) (k : List UInt8) (hx : a.eval x = .slice ao m c) (hk : Bts w ao m c k) (hroom : n + m ≤ 140737488355328) (hbase : base ≤ w.heap.size)
    (h : ∀ v' w', OwnB w' base v' (n + m) (l ++ k) → Below base w w' → wpList Try.prog ops Q rest (a.put o.dst v') w') : wpList Try.prog ops Q (o :: rest) a w :=
  wpList_app8 hgd s x ho base v n l hs hown ao m c k hx hk hroom hbase (fun v' w' h1 h2 => h v' w' h1 ((Below.refl base w).grown h2 hbase (fun k hk => (World.ownsRow.lt hown k hk).1)))
set_option maxHeartbeats 800000 in
theorem rput_any (v : Value) (k : Nat) (l : List UInt8) (x n base : Nat) (w : World) (hown : OwnB w base v k l) (hx : x < 18446744073709551616) (hn : n ≤ 65536) (hb : base ≤ w.heap.size) (hroom : k ≤ 1000000) :
    Calls Try.prog 38 #[v, .int .u64 x, .int .i64 n] w fun e w' => ∃ v', e = .returned v' ∧ OwnB w' base v' (k + n) (l ++ byts x n) ∧ Below base w w' := by
  go_enter Try.func38, Try.ntmps38
  go_wp2_with fail
  refine (bytes_any x n _ hx hn).mono ?_
  rintro e w1 ⟨rfl, hb1, hk1⟩
  have hl1 := hb1.lt
  have hbt : Bts w1 (some ⟨w.heap.size, 0, none⟩) n n (byts x n) := by
    have h := bts_blk (rest := []) (l := byts x n) (cap := n) (by simpa using hb1) (by rw [byts_len]; omega) (by unfold maxLen; omega)
    rwa [byts_len] at h
  go_wp2_with (at_builtin; refine wpList_appB rfl (.tmp 7) (.tmp 10) rfl base v k l rfl (hown.kept hk1) _ n n (byts x n) rfl hbt (by omega) (by have := hk1.size; omega) ?_)
  intro v' w2 ho hbl
  go_wp2
  go_ret
  exact ⟨v', rfl, ho, (Below.ofKept hk1 hb).trans hbl⟩
theorem rputI (v : Value) (k : Nat) (l : List UInt8) (x n base : Nat) (X N : Int) (w : World) (hown : OwnB w base v k l) (hX : X = (x : Int)) (hN : N = (n : Int)) (hx : x < 18446744073709551616) (hn : n ≤ 65536) (hb : base ≤ w.heap.size) (hroom : k ≤ 1000000) :
    Calls Try.prog 38 #[v, .int .u64 X, .int .i64 N] w fun e w' => ∃ v', e = .returned v' ∧ OwnB w' base v' (k + n) (l ++ byts x n) ∧ Below base w w' := by
  subst hX hN
  exact rput_any v k l x n base w hown hx hn hb hroom
end Go.Proofs.Ytpedenaaiinakaa
