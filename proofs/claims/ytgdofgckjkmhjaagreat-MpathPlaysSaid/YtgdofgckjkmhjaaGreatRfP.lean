/- The document's sender: Push. -/
import Derived.Test.YtgdofgckjkmhjaaGreatPk11
import Derived.Test.YtgdofgckjkmhjaaGreatWcB
import Derived.Deep.Onto
import Derived.Deep.DeepCutAuto
set_option linter.unusedSimpArgs false
set_option linter.unusedVariables false
namespace Go.Proofs.YtgdofgckjkmhjaaGreat.Mp
open Go Go.RowKit
open Qd (dvl dv0 dvl_one infoDg step_of)
theorem it_app {w : World} {ops : Array Oper} {rest : List Oper} {o : Oper} {a : Act} {Q : Exit → Act → World → Prop} (hgd : o.guard = none) (s x : Operand)
    (ho : o.op = .call { callee := .builtin .append, args := #[s, x], argTypes := #[38, 38] })
    (base : Nat) (v : Value) (l : List Qd.It) (hs : a.eval s = v) (hown : w.ownsRow base 121 12 v l.length (itC l))
    (g : Nat) (y : Qd.It) (hx : a.eval x = .slice (some ⟨g, 0, none⟩) 1 1) (hb : Blk w g (snt y.rank y.v) 121) (hroom : l.length ≤ 1000000) (hbase : base ≤ w.heap.size)
    (h : ∀ v' w', w'.ownsRow base 121 12 v' (l ++ [y]).length (itC (l ++ [y])) → w.grownBy w' v.ownBlock → wpList Tryz.prog ops Q rest (a.put o.dst v') w') : wpList Tryz.prog ops Q (o :: rest) a w := by
  refine wpList_app hgd s x 38 ho base 121 (.agg (snt 0 dv0).toArray) 12 96 infoRi3 Tryz.underlying38 rfl (by omega) v l.length (itC l) hs hown (some ⟨g, 0, none⟩) 1 1 (snt y.rank y.v) hx rfl (by simp) (by omega) (newsP hb) (snt_one _ _) (by unfold maxLen; omega) (by omega) hbase ?_
  intro v' w' h1 h2
  refine h v' w' ?_ h2
  rw [List.length_append, itC_app]
  simpa [itC] using h1
theorem infoRi : (Tryz.prog.info? 121).map (·.size) = some 12 := by kernel_rfl
theorem builtIm (rank : Int) (x : Qd.Dv) : Tryz.prog.built 121 [(0, .int .i64 rank), (1, .agg (dvl x).toArray)] = some (snt rank x).toArray := by kernel_rfl
def pushR (m : Ms) (rank : Int) (x : Qd.Dv) : Ms := { pushM m rank x with drop := if goneB m.room m.s then m.drop + 1 else m.drop }
/-- What a push leaves. -/
def RPuP (w : World) (m : Ms) (rank : Int) (d : Dg) (p : Option Addr) (cc : Nat) (e : Ending) (w' : World) : Prop :=
  ∃ a2 c2 m2, e = .returned (.tuple #[.agg (rsd m2 a2 c2).toArray, .int .i64 (chk (pushD m d))]) ∧ RL w' a2 c2 m2.s ∧ Kept [] w w' ∧ m2 = if chk (pushD m d) = 0 then pushR m rank ⟨pushD m d, p, cc⟩ else m
theorem rpush_start (m : Ms) (a : Option Addr) (c : Nat) (d : Qd.Dv) (w : World) (Z : Array Value) (hZ : Z.toList = rsd ms00 none 0) {W0 : World}
    (h : ((w.alloc (.cells (rsd m a c).toArray 40)).alloc (.cells (dvl d).toArray 50)).alloc (.cells Z 40) = W0) :
    Blk W0 w.heap.size (rsd m a c) 40 ∧ Blk W0 (w.heap.size + 1) (dvl d) 50 ∧ Blk W0 (w.heap.size + 2) (rsd ms00 none 0) 40 ∧ Kept [] w W0 := by
  subst h
  refine ⟨((Blk.new w (rsd m a c) 40).alloc _).alloc _, ?_, ?_, (((Kept.refl _ _).alloc _).alloc _).alloc _⟩
  · have h := (Blk.new (w.alloc (.cells (rsd m a c).toArray 40)) (dvl d) 50).alloc (.cells Z 40)
    rw [show (w.alloc (.cells (rsd m a c).toArray 40)).heap.size = w.heap.size + 1 by simp] at h
    exact h
  · have h := Blk.new' ((w.alloc (.cells (rsd m a c).toArray 40)).alloc (.cells (dvl d).toArray 50)) Z 40
    rw [hZ, show ((w.alloc (.cells (rsd m a c).toArray 40)).alloc (.cells (dvl d).toArray 50)).heap.size = w.heap.size + 2 by simp] at h
    exact h
/-- The three boxes. -/
structure Bx3 (w W : World) (m : Ms) (a : Option Addr) (c : Nat) (d : Qd.Dv) : Prop where
  b : Blk W w.heap.size (rsd m a c) 40
  d : Blk W (w.heap.size + 1) (dvl d) 50
  r : Blk W (w.heap.size + 2) (rsd ms00 none 0) 40
theorem Bx3.kept {w W W2 : World} {m : Ms} {a : Option Addr} {c : Nat} {d : Qd.Dv} (h : Bx3 w W m a c d) (hk : Kept [] W W2) : Bx3 w W2 m a c d := ⟨hk.blk h.b (by simp), hk.blk h.d (by simp), hk.blk h.r (by simp)⟩
theorem push_list {room : Int} {s : List Qd.It} {x : Qd.It} {out : List Qd.It} (h : out = Qd.insS s x) : pushS room s x = if room < (out.length : Int) then out.dropLast else out := by
  subst h; rfl
theorem push_rsd (m : Ms) (rank : Int) (x : Qd.Dv) (a a2 : Option Addr) (c c2 n : Nat) (dv : Int) (hn : n = (pushR m rank x).s.length) (hd : dv = (pushR m rank x).drop) : rhd m ++ ((rtl m a c).set 9 (.int .i64 dv)).set 5 (.slice a2 n c2) = rsd (pushR m rank x) a2 c2 := by
  subst hn hd
  rfl
theorem push_rsd1 (m : Ms) (rank : Int) (x : Qd.Dv) (a a2 : Option Addr) (c c2 n : Nat) (hn : n = (pushR m rank x).s.length) (hd : m.drop = (pushR m rank x).drop) : rhd m ++ (rtl m a c).set 5 (.slice a2 n c2) = rsd (pushR m rank x) a2 c2 := by
  rw [← push_rsd m rank x a a2 c c2 n m.drop hn hd]
  rfl
theorem set_two {m : Ms} {a : Option Addr} {c : Nat} {u v : Value} : ((rsd m a c).set 165 u).set 161 v = rhd m ++ ((rtl m a c).set 9 u).set 5 v := by
  rw [show (165 : Nat) = 156 + 9 from rfl, rsd_set, show (161 : Nat) = 156 + 5 from rfl, List.set_append_right _ _ (by rw [rhd_len]; omega), rhd_len]
set_option linter.unusedSimpArgs false in
set_option maxRecDepth 100000 in
set_option maxHeartbeats 12800000 in
theorem rpush_m (m : Ms) (a : Option Addr) (c : Nat) (rank : Int) (d : Dg) (p : Option Addr) (cc : Nat) (w : World) (hl : RL w a c m.s) (hd : Bts w p d.data.length cc d.data) (h1 : 1 ≤ m.room ∧ m.room ≤ 256) (h2 : (m.s.length : Int) ≤ m.room) (h3 : 0 ≤ m.drop ∧ m.drop ≤ 1000000) :
    Calls Tryz.prog 31 #[.agg (rsd m a c).toArray, .int .i64 rank, .agg (dgl d p cc).toArray] w (RPuP w m rank d p cc) := by
  obtain ⟨Z, hZ, hz⟩ := zeroRS'
  have HL := hx hl
  have HD := hx hd
  have HBN := hx (And.intro h1 (And.intro h2 h3))
  obtain ⟨x, hxe⟩ : ∃ x : Qd.Dv, x = ⟨pushD m d, p, cc⟩ := ⟨_, rfl⟩
  have HXE := hx hxe
  go_enter Tryz.func31, Tryz.ntmps31
  go_upto_region 1 with fail
  generalize hw0 : World.alloc (World.alloc (World.alloc w _) _) _ = W0
  obtain ⟨b0, d0, r0, k0⟩ := rpush_start m a c ⟨d, p, cc⟩ w Z hZ hw0
  have B0 := hx b0
  have D0 := hx d0
  have R0 := hx r0
  have K0 := hx k0
  have cs := b0.cell (i := 163) (v := .int .u32 m.sess) (rsd_at m a c 7)
  have df := d0.free
  have c1 := d0.cell (i := 1) (v := .int .u32 d.sess) rfl
  have c3 := d0.cell (i := 3) (v := .int .i64 d.path) rfl
  clear hz hZ hw0 b0 d0 r0 k0 hl hd h1 h2 h3
  go_upto_region 2 with fail
  generalize hw1 : World.setCell (World.setCell W0 _ _) _ _ = W1
  have X1 := hx (show Bx3 w W1 m a c x from by
    rw [← hw1, hxe]
    exact ⟨(B0.out.set_ne (by simp) _).set_ne (by simp) _, (D0.out.set 1 (.int .u32 m.sess)).set 3 (.int .i64 0), (R0.out.set_ne (by simp) _).set_ne (by simp) _⟩)
  have K1 := hx (show Kept [] w W1 from by rw [← hw1]; exact (K0.out.setCell (.inr (by simp)) _).setCell (.inr (by simp)) _)
  clear hw1 cs df c1 c3 B0 D0 R0 K0
  have HCK := hx (fun (W : World) (hk : Kept [] w W) => show Calls Tryz.prog 55 #[.agg (dvl x).toArray] W (fun e w' => e = .returned (.int .i64 (chk (pushD m d))) ∧ Kept [] W w') from by
    rw [hxe]
    exact rcheck_any (pushD m d) p d.data.length cc W (HD.out.kept hk))
  clear hxe
  go_upto_region 3 with (first
    | (refine load_blk rfl 50 (.tmp 5) rfl (w.heap.size + 1) rfl 50 _ _ X1.out.d Tryz.underlying50 rfl infoDg ?_)
    | (go_at_call 55; refine (HCK.out _ K1.out).mono ?_; rintro e w2 ⟨rfl, hk2⟩; have K2 := hx (K1.out.trans0 hk2); have X2 := hx (X1.out.kept hk2); clear hk2))
  obtain ⟨ec, hec⟩ : ∃ z, chk (pushD m d) = z := ⟨_, rfl⟩
  have HEC := hx hec
  rw [hec]
  by_cases h0 : ec = 0
  · subst h0
    clear hec
    go_wp2_with fail
    go_loopw [9, 10, 11] (fun s9 s10 s11 wr => ∃ (i : Nat) (b : Bool) (out : List Qd.It) (ao : Option Addr) (co : Nat), s9 = .slice ao out.length co ∧ s10 = .bool b ∧ s11 = .int .i64 (i : Int) ∧ Hx (i ≤ m.s.length) ∧ Hx (PuI m.s ⟨rank, m.turns + 1, x⟩ i b out) ∧ Hx (wr.ownsRow w2.heap.size 121 12 (.slice ao out.length co) out.length (itC out)) ∧ Hx (Kept [] w2 wr)) (fun _ _ s11 _ => m.s.length - (intOf s11).toNat)
    case atStart => exact ⟨0, false, [], none, 0, rfl, rfl, rfl, hx (Nat.zero_le _), hx (PuI.zero _ _), hx (World.ownsRow_nil _ _ _ _), hx (Kept.refl _ _)⟩
    case round =>
      obtain ⟨i, b, out, ao, co, rfl, rfl, rfl, HI, HPU, HO, HK⟩ := hrel
      have XR := hx (X2.out.kept HK.out)
      have cl := XR.out.b.cell (i := 161) (v := .slice a m.s.length c) (rsd_at m a c 5)
      by_cases hil : i < m.s.length
      · have hiI : (i : Int) < (m.s.length : Int) := by omega
        have HIL := hx hil
        obtain ⟨y, hy⟩ : ∃ y, m.s[i]? = some y := ⟨_, List.getElem?_eq_getElem hil⟩
        obtain ⟨gr, og, rfl, hra0⟩ := HL.out.range hy
        have HRA := hx (fun (W : World) (hk : Kept [] w W) => hk.range hra0 (by simp))
        have hra := HRA.out wr (K2.out.trans0 HK.out)
        clear hra0
        have hrk := hra 0 _ rfl
        have HY := hx hy
        have HLE := hx (show out.length ≤ 300 from by have h5 := HPU.out.2; have h6 := HBN.out; split at h5 <;> omega)
        have hi3 : (i : Int) ≤ 300 := by have h5 := HIL.out; have h6 := HBN.out; omega
        have hk0 : wr.cell? ⟨gr, og + i * 12, none⟩ = some (.int .i64 y.rank) := hrk
        clear hrk hy hil
        have hyb : wr.rangeAt gr (og + i * 12) (snt y.rank y.v) := hra
        cases b with
        | true =>
          clear hra
          go_upto_region 13 with fail
          go_wp2_with (first
      | (refine wpList_load_mid rfl 121 (.tmp 51) rfl gr (og + i * 12) rfl (snt y.rank y.v) _ hyb Tryz.underlying121 rfl infoRi ?_)
      | (refine wpList_bs1 rfl 38 121 (.tmp 52) rfl 12 96 _ infoRi3 (snt y.rank y.v) rfl rfl (by omega) (by omega) Tryz.underlying38 ?_; intro w5 hb5 hk5; have B5 := hx hb5; have K5 := hx (HK.out.trans0 hk5); have O5 := hx (Qd.own_kept3 HO.out (fun g cs hv hg => hk5.block g (Array.getElem?_eq_some_iff.1 hg).1 (by simp))); clear hb5 hk5; refine it_app rfl (.tmp 47) (.tmp 53) rfl w2.heap.size _ (out) rfl O5.out _ y rfl B5.out (by have := HLE.out; (try simp only [List.length_append, List.length_cons, List.length_nil]); omega) K5.out.size ?_; intro v6 w6 ho6 hg6; obtain ⟨a6, c6, h6⟩ := Qd.own_slice ho6; subst h6; have O6 := hx ho6; have K6 := hx (K5.out.grown hg6 (fun g hg => .inr (O5.out.lt g hg).1)); clear ho6 hg6))
          go_roundw
          case rel => exact ⟨i + 1, true, out ++ [y], a6, c6, by rw [List.length_append]; rfl, rfl, by push_cast; rfl, hx (by have := HIL.out; omega), hx (HPU.out.goes HY.out), O6, K6⟩
          case measure =>
            simp only [intOf]
            have := HIL.out
            omega
        | false =>
          by_cases hlt : rank < y.rank
          · have dlt : decide (rank < y.rank) = true := decide_eq_true hlt
            have HLT := hx hlt
            clear hra hyb hlt
            go_upto_region 11 with fail
            go_upto_region 13 with (first
        | (refine load_blk rfl 50 (.tmp 5) rfl (w.heap.size + 1) rfl 50 _ _ XR.out.d Tryz.underlying50 rfl infoDg ?_)
        | (refine wpList_built rfl 121 _ rfl _ [(0, .int .i64 rank), (1, .agg (dvl x).toArray)] (by simp only [List.map_toArray, List.map_cons, List.map_nil]; rfl) (builtIm rank x) ?_)
        | (refine wpList_bs1 rfl 38 121 (.tmp 44) rfl 12 96 _ infoRi3 (snt rank x) rfl rfl (by omega) (by omega) Tryz.underlying38 ?_; intro w5 hb5 hk5; have B5 := hx hb5; have K5 := hx (HK.out.trans0 hk5); have O5 := hx (Qd.own_kept3 HO.out (fun g cs hv hg => hk5.block g (Array.getElem?_eq_some_iff.1 hg).1 (by simp))); clear hb5 hk5; refine it_app rfl (.tmp 41) (.tmp 45) rfl w2.heap.size _ (out) rfl O5.out _ ⟨rank, m.turns + 1, x⟩ rfl B5.out (by have := HLE.out; (try simp only [List.length_append, List.length_cons, List.length_nil]); omega) K5.out.size ?_; intro v6 w6 ho6 hg6; obtain ⟨a6, c6, h6⟩ := Qd.own_slice ho6; subst h6; have O6 := hx ho6; have K6 := hx (K5.out.grown hg6 (fun g hg => .inr (O5.out.lt g hg).1)); clear ho6 hg6))
            have XR6 := hx (X2.out.kept K6.out)
            have cl6 := XR6.out.b.cell (i := 161) (v := .slice (some ⟨gr, og, none⟩) m.s.length c) (rsd_at m _ c 5)
            have hr6 := HRA.out w6 (K2.out.trans0 K6.out)
            obtain ⟨o2, ho2⟩ : ∃ o2, out ++ [⟨rank, m.turns + 1, x⟩] = o2 := ⟨_, rfl⟩
            rw [ho2] at O6
            rw [show out.length + 1 = o2.length by rw [← ho2]; simp]
            have HPU2 := hx (show PuI m.s ⟨rank, m.turns + 1, x⟩ (i + 1) true (o2 ++ [y]) by rw [← ho2]; exact HPU.out.puts HY.out HLT.out)
            have HLE := hx (show o2.length ≤ 301 by have := HLE.out; rw [← ho2]; simp; omega)
            clear cl ho2
            go_wp2_with (first
        | (refine wpList_load_mid rfl 121 (.tmp 51) rfl gr (og + i * 12) rfl (snt y.rank y.v) _ hr6 Tryz.underlying121 rfl infoRi ?_)
        | (refine wpList_bs1 rfl 38 121 (.tmp 52) rfl 12 96 _ infoRi3 (snt y.rank y.v) rfl rfl (by omega) (by omega) Tryz.underlying38 ?_; intro w7 hb7 hk7; have B7 := hx hb7; have K7 := hx (K6.out.trans0 hk7); have O7 := hx (Qd.own_kept3 O6.out (fun g cs hv hg => hk7.block g (Array.getElem?_eq_some_iff.1 hg).1 (by simp))); clear hb7 hk7; refine it_app rfl (.tmp 47) (.tmp 53) rfl w2.heap.size _ (o2) rfl O7.out _ y rfl B7.out (by have := HLE.out; (try simp only [List.length_append, List.length_cons, List.length_nil]); omega) K7.out.size ?_; intro v8 w8 ho8 hg8; obtain ⟨a8, c8, h8⟩ := Qd.own_slice ho8; subst h8; have O8 := hx ho8; have K8 := hx (K7.out.grown hg8 (fun g hg => .inr (O7.out.lt g hg).1)); clear ho8 hg8))
            go_roundw
            case rel => exact ⟨i + 1, true, o2 ++ [y], a8, c8, by rw [List.length_append]; rfl, rfl, by push_cast; rfl, hx (by have := HIL.out; omega), HPU2, O8, K8⟩
            case measure =>
              simp only [intOf]
              have := HIL.out
              omega
          · have dlt : decide (rank < y.rank) = false := decide_eq_false hlt
            have HLT := hx hlt
            clear hra hlt
            go_upto_region 13 with fail
            go_wp2_with (first
        | (refine wpList_load_mid rfl 121 (.tmp 51) rfl gr (og + i * 12) rfl (snt y.rank y.v) _ hyb Tryz.underlying121 rfl infoRi ?_)
        | (refine wpList_bs1 rfl 38 121 (.tmp 52) rfl 12 96 _ infoRi3 (snt y.rank y.v) rfl rfl (by omega) (by omega) Tryz.underlying38 ?_; intro w5 hb5 hk5; have B5 := hx hb5; have K5 := hx (HK.out.trans0 hk5); have O5 := hx (Qd.own_kept3 HO.out (fun g cs hv hg => hk5.block g (Array.getElem?_eq_some_iff.1 hg).1 (by simp))); clear hb5 hk5; refine it_app rfl (.tmp 47) (.tmp 53) rfl w2.heap.size _ (out) rfl O5.out _ y rfl B5.out (by have := HLE.out; (try simp only [List.length_append, List.length_cons, List.length_nil]); omega) K5.out.size ?_; intro v6 w6 ho6 hg6; obtain ⟨a6, c6, h6⟩ := Qd.own_slice ho6; subst h6; have O6 := hx ho6; have K6 := hx (K5.out.grown hg6 (fun g hg => .inr (O5.out.lt g hg).1)); clear ho6 hg6))
            go_roundw
            case rel => exact ⟨i + 1, false, out ++ [y], a6, c6, by rw [List.length_append]; rfl, rfl, by push_cast; rfl, hx (by have := HIL.out; omega), hx (HPU.out.less HY.out (by have := HLT.out; omega)), O6, K6⟩
            case measure =>
              simp only [intOf]
              have := HIL.out
              omega
      · obtain rfl : i = m.s.length := by have := HI.out; omega
        have HLE := hx (show out.length ≤ 300 from by have h5 := HPU.out.2; have h6 := HBN.out; split at h5 <;> omega)
        clear hil
        go_upto_if 56 with fail
        go_cut [9] from 55 to 62 (fun s9 wx => ∃ (o2 : List Qd.It) (a2 : Option Addr) (c2 : Nat), s9 = .slice a2 o2.length c2 ∧ Hx (o2 = Qd.insS m.s ⟨rank, m.turns + 1, x⟩) ∧ Hx (wx.ownsRow w2.heap.size 121 12 (.slice a2 o2.length c2) o2.length (itC o2)) ∧ Hx (Kept [] w2 wx))
        case first =>
          cases b with
          | true =>
            go_wp2_with fail
            go_meet
            exact ⟨out, ao, co, rfl, hx HPU.out.last, HO, HK⟩
          | false =>
            go_wp2_with (first
              | (refine load_blk rfl 50 (.tmp 5) rfl (w.heap.size + 1) rfl 50 _ _ XR.out.d Tryz.underlying50 rfl infoDg ?_)
              | (refine wpList_built rfl 121 _ rfl _ [(0, .int .i64 rank), (1, .agg (dvl x).toArray)] (by simp only [List.map_toArray, List.map_cons, List.map_nil]; rfl) (builtIm rank x) ?_)
              | (refine wpList_bs1 rfl 38 121 (.tmp 60) rfl 12 96 _ infoRi3 (snt rank x) rfl rfl (by omega) (by omega) Tryz.underlying38 ?_; intro w5 hb5 hk5; have B5 := hx hb5; have K5 := hx (HK.out.trans0 hk5); have O5 := hx (Qd.own_kept3 HO.out (fun g cs hv hg => hk5.block g (Array.getElem?_eq_some_iff.1 hg).1 (by simp))); clear hb5 hk5; refine it_app rfl (.tmp 57) (.tmp 61) rfl w2.heap.size _ (out) rfl O5.out _ ⟨rank, m.turns + 1, x⟩ rfl B5.out (by have := HLE.out; (try simp only [List.length_append, List.length_cons, List.length_nil]); omega) K5.out.size ?_; intro v6 w6 ho6 hg6; obtain ⟨a6, c6, h6⟩ := Qd.own_slice ho6; subst h6; have O6 := hx ho6; have K6 := hx (K5.out.grown hg6 (fun g hg => .inr (O5.out.lt g hg).1)); clear ho6 hg6))
            go_meet
            exact ⟨out ++ [⟨rank, m.turns + 1, x⟩], a6, c6, by rw [List.length_append]; rfl, hx HPU.out.last2, O6, K6⟩
        case rest =>
          obtain ⟨o2, a2, c2, rfl, HIN, HO2, HK2⟩ := hcut
          have XF := hx (X2.out.kept HK2.out)
          have HLO := hx (show o2.length = m.s.length + 1 from by rw [HIN.out, Qd.ins_len])
          have HPS := hx (push_list (room := m.room) HIN.out)
          obtain ⟨rm, hrm⟩ : ∃ rm : Nat, m.room = (rm : Int) := ⟨m.room.toNat, by have := HBN.out; omega⟩
          have cm := XF.out.b.cell (i := 162) (v := .int .i64 m.room) (rsd_at m a c 6)
          have cd := XF.out.b.cell (i := 165) (v := .int .i64 m.drop) (rsd_at m a c 9)
          have cs5 := XF.out.b.cell (i := 161) (v := .slice a m.s.length c) (rsd_at m a c 5)
          have hf := XF.out.b.free
          rw [hrm] at cm
          have HRM := hx hrm
          have hdb := HBN.out.2.2
          have HCAP := hx (show o2.length ≤ c2 ∧ c2 ≤ maxLen from by
            have h := RL.own HO2.out rfl
            exact ⟨h.le, h.top⟩)
          by_cases hg : (rm : Int) < (o2.length : Int)
          · have dg : decide ((rm : Int) < (o2.length : Int)) = true := decide_eq_true hg
            have dgn : decide (rm < o2.length) = true := decide_eq_true (by omega)
            have dgp : rm < o2.length := by omega
            have hrc : (rm : Int) ≤ (c2 : Int) := by have := HCAP.out; omega
            have HG := hx (show rm = m.s.length from by have h1 := HLO.out; have h2 := HBN.out; have h3 := HRM.out; omega)
            have HGB := hx (show (pushR m rank x).s = o2.take rm ∧ (pushR m rank x).drop = m.drop + 1 from by
              have h1 := HPS.out
              rw [if_pos (by rw [HRM.out]; exact hg)] at h1
              refine ⟨?_, ?_⟩
              · show pushS m.room m.s ⟨rank, m.turns + 1, x⟩ = _
                rw [h1, List.dropLast_eq_take, HLO.out, HG.out, Nat.add_sub_cancel]
              · show (if goneB m.room m.s = true then m.drop + 1 else m.drop) = _
                rw [if_pos (by unfold goneB; rw [HRM.out]; have h2 := HLO.out; simp; omega)])
            clear hrm hg
            go_upto_region 20 with fail
            generalize hw7 : World.setCell (World.setCell wc _ _) _ _ = w7
            have B7 := hx (show Blk w7 w.heap.size (rsd (pushR m rank x) a2 c2) 40 from by
              rw [← hw7]
              have h := (XF.out.b.set 165 (.int .i64 (m.drop + 1))).set 161 (.slice a2 rm c2)
              rw [set_two, push_rsd m rank x a a2 c c2 rm (m.drop + 1) (by rw [HGB.out.1, List.length_take]; have := HLO.out; have := HG.out; omega) HGB.out.2.symm] at h
              exact h)
            have R7 := hx (show Blk w7 (w.heap.size + 2) (rsd ms00 none 0) 40 from by rw [← hw7]; exact (XF.out.r.set_ne (by simp) _).set_ne (by simp) _)
            have K7 := hx (show Kept [w.heap.size] wc w7 from by rw [← hw7]; exact ((Kept.refl _ _).setCell (.inl (by simp)) _).setCell (.inl (by simp)) _)
            clear hw7 cm cd cs5 hf dg hrc hdb
            have RW := hx (Qd.own_kept3 HO2.out (fun g cs hv hg => K7.out.block g (Array.getElem?_eq_some_iff.1 hg).1 (by have h1 := (HO2.out.lt g hv).1; have h2 := X2.out.b.lt; simp; omega)))
            have KW := hx ((K2.out.trans0 HK2.out).trans K7.out (ds := []) (fun _ h => h) (fun g hg => by simp at hg; subst hg; exact .inr (Nat.le_refl _)))
            go_wp2_with (first
              | (refine load_blk rfl 40 (.tmp 3) rfl w.heap.size rfl 40 _ _ B7.out Tryz.underlying40 rfl (infoRs2 _ _ _) ?_)
              | (refine store_blk rfl 40 (.tmp 6) (.tmp 78) rfl (w.heap.size + 2) rfl 40 _ (rsd (pushR m rank x) a2 c2) rfl R7.out (by rw [rsd_len, rsd_len]) (infoRs2 _ _ _) (rsd_one _ _ _) ?_; intro w8 hb8 hk8))
            refine bodyPost_ret (Qd.ret_blk2 rfl _ (w.heap.size + 2) _ _ _ _ rfl rfl hb8 Tryz.underlying40 rfl (infoRs2 _ _ _)) rfl ⟨a2, c2, pushR m rank x, by rw [HEC.out]; rfl, ?_, Kept.behind KW.out hk8 (by omega), by rw [if_pos HEC.out, ← HXE.out]⟩
            have hr8 := Qd.own_kept3 RW.out (fun g cs hv hg => hk8.block g (Array.getElem?_eq_some_iff.1 hg).1 (by have h1 := (RW.out.lt g hv).1; have h2 := X2.out.r.lt; simp; omega))
            rw [HGB.out.1]
            exact (RL.own hr8 rfl).take
          · have dg : decide ((rm : Int) < (o2.length : Int)) = false := decide_eq_false hg
            have dgn : decide (rm < o2.length) = false := decide_eq_false (by omega)
            have dgp : ¬ rm < o2.length := by omega
            have HGB := hx (show (pushR m rank x).s = o2 ∧ (pushR m rank x).drop = m.drop from by
              have h1 := HPS.out
              rw [if_neg (by rw [HRM.out]; exact hg)] at h1
              refine ⟨h1, ?_⟩
              show (if goneB m.room m.s = true then m.drop + 1 else m.drop) = _
              rw [if_neg (by unfold goneB; rw [HRM.out]; have h2 := HLO.out; simp; omega)])
            clear hrm hg
            go_upto_region 20 with fail
            generalize hw7 : World.setCell wc _ _ = w7
            have B7 := hx (show Blk w7 w.heap.size (rsd (pushR m rank x) a2 c2) 40 from by
              rw [← hw7]
              have h := XF.out.b.set 161 (.slice a2 o2.length c2)
              rw [show (161 : Nat) = 156 + 5 from rfl, rsd_set, push_rsd1 m rank x a a2 c c2 o2.length (by rw [HGB.out.1]) HGB.out.2.symm] at h
              exact h)
            have R7 := hx (show Blk w7 (w.heap.size + 2) (rsd ms00 none 0) 40 from by rw [← hw7]; exact XF.out.r.set_ne (by simp) _)
            have K7 := hx (show Kept [w.heap.size] wc w7 from by rw [← hw7]; exact (Kept.refl _ _).setCell (.inl (by simp)) _)
            clear hw7 cm cd cs5 hf dg hdb
            have RW := hx (Qd.own_kept3 HO2.out (fun g cs hv hg => K7.out.block g (Array.getElem?_eq_some_iff.1 hg).1 (by have h1 := (HO2.out.lt g hv).1; have h2 := X2.out.b.lt; simp; omega)))
            have KW := hx ((K2.out.trans0 HK2.out).trans K7.out (ds := []) (fun _ h => h) (fun g hg => by simp at hg; subst hg; exact .inr (Nat.le_refl _)))
            go_wp2_with (first
              | (refine load_blk rfl 40 (.tmp 3) rfl w.heap.size rfl 40 _ _ B7.out Tryz.underlying40 rfl (infoRs2 _ _ _) ?_)
              | (refine store_blk rfl 40 (.tmp 6) (.tmp 78) rfl (w.heap.size + 2) rfl 40 _ (rsd (pushR m rank x) a2 c2) rfl R7.out (by rw [rsd_len, rsd_len]) (infoRs2 _ _ _) (rsd_one _ _ _) ?_; intro w8 hb8 hk8))
            refine bodyPost_ret (Qd.ret_blk2 rfl _ (w.heap.size + 2) _ _ _ _ rfl rfl hb8 Tryz.underlying40 rfl (infoRs2 _ _ _)) rfl ⟨a2, c2, pushR m rank x, by rw [HEC.out]; rfl, ?_, Kept.behind KW.out hk8 (by omega), by rw [if_pos HEC.out, ← HXE.out]⟩
            have hr8 := Qd.own_kept3 RW.out (fun g cs hv hg => hk8.block g (Array.getElem?_eq_some_iff.1 hg).1 (by have h1 := (RW.out.lt g hv).1; have h2 := X2.out.r.lt; simp; omega))
            rw [HGB.out.1]
            exact RL.own hr8 rfl
  · have h0b : (ec != 0) = true := by simpa using h0
    have HE0 := hx h0
    clear h0 hec
    go_wp2_with (first
      | (refine load_blk rfl 40 (.tmp 3) rfl w.heap.size rfl 40 _ _ X2.out.b Tryz.underlying40 rfl (infoRs2 _ _ _) ?_)
      | (refine store_blk rfl 40 (.tmp 6) (.tmp 20) rfl (w.heap.size + 2) rfl 40 _ _ rfl X2.out.r (by rw [rsd_len, rsd_len]) (infoRs2 _ _ _) (rsd_one _ _ _) ?_; intro w5 hb5 hk5))
    exact bodyPost_ret (Qd.ret_blk2 rfl _ (w.heap.size + 2) _ _ _ _ rfl rfl hb5 Tryz.underlying40 rfl (infoRs2 _ _ _)) rfl ⟨a, c, m, by rw [HEC.out]; rfl, (HL.out.kept (Kept.behind K2.out hk5 (by omega))), Kept.behind K2.out hk5 (by omega), by rw [HEC.out, if_neg HE0.out]⟩
end Go.Proofs.YtgdofgckjkmhjaaGreat.Mp
