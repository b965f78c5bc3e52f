/- The document's sender: Forget. Chapter 15: the closures of Forget. Chapter 15: prio's Filter at datagrams, as Forget calls it. Chapter 15, plain: the document's list beside the program's: alike but for where the data lie. Chapter 15: the program's Forget. A datagram that comes in. A script of chapter 15 that comes in (as in XMpBg: never import both). The document's order of ways, in a block of any type (XPathRo, its rows of any type). -/
import Derived.Test.YtgdofgckjkmhjaaGreatRfP
import Derived.Test.YtgdofgckjkmhjaaGreatPk05
import Derived.Test.YtgdofgckjkmhjaaGreatPk11
import Derived.WideShapes
import Derived.ChangeSlices
import Derived.OpenShut
import Derived.ProofKit
import Derived.Deep.Slices
import Derived.Test.YtgdofgckjkmhjaaGreatPk04
import Derived.Deep.Onto
set_option linter.unusedSimpArgs false
set_option linter.unusedVariables false
namespace Go.Proofs.YtgdofgckjkmhjaaGreat.Mp
open Go Go.RowKit
open Qd (dvl dv0 dvl_one infoDg step_of)
def keepK (kind : Int) (y : Qd.It) : Bool := decide (y.v.d.kind ≠ kind)
def forgS (kind : Int) (l : List Qd.It) : List Qd.It := l.filter (keepK kind)
theorem forg_yes {kind : Int} {l : List Qd.It} {i : Nat} {y : Qd.It} (hy : l[i]? = some y) (h : y.v.d.kind ≠ kind) : forgS kind (l.take (i + 1)) = forgS kind (l.take i) ++ [y] := by
  obtain ⟨h1, h2⟩ := List.getElem?_eq_some_iff.1 hy
  unfold forgS
  rw [List.take_succ_eq_append_getElem h1, List.filter_append, h2]
  simp [keepK, h]
theorem forg_no {kind : Int} {l : List Qd.It} {i : Nat} {y : Qd.It} (hy : l[i]? = some y) (h : y.v.d.kind = kind) : forgS kind (l.take (i + 1)) = forgS kind (l.take i) := by
  obtain ⟨h1, h2⟩ := List.getElem?_eq_some_iff.1 hy
  unfold forgS
  rw [List.take_succ_eq_append_getElem h1, List.filter_append, h2]
  simp [keepK, h]
theorem forg_len (kind : Int) (l : List Qd.It) (i : Nat) : (forgS kind (l.take i)).length ≤ l.length := by
  have h1 := List.length_filter_le (keepK kind) (l.take i)
  have h2 : (l.take i).length ≤ l.length := by simp; omega
  unfold forgS
  omega
def RFoP (w : World) (m : Ms) (kind : Int) (e : Ending) (w' : World) : Prop :=
  ∃ a2 c2, e = .returned (.tuple #[.agg (rsd { m with s := forgS kind m.s } a2 c2).toArray, .int .i64 ((m.s.length : Int) - ((forgS kind m.s).length : Int))]) ∧ RL w' a2 c2 (forgS kind m.s) ∧ Kept [] w w'
theorem forg_rsd (m : Ms) (kind : Int) (a a2 : Option Addr) (c c2 n : Nat) (hn : n = (forgS kind m.s).length) : rhd m ++ (rtl m a c).set 5 (.slice a2 n c2) = rsd { m with s := forgS kind m.s } a2 c2 := by
  subst hn
  rfl
set_option linter.unusedSimpArgs false in
set_option maxRecDepth 100000 in
set_option maxHeartbeats 12800000 in
theorem rforget_m (m : Ms) (a : Option Addr) (c : Nat) (kind : Int) (w : World) (hl : RL w a c m.s) (hn : m.s.length ≤ 256) :
    Calls Tryz.prog 42 #[.agg (rsd m a c).toArray, .int .i64 kind] w (RFoP w m kind) := by
  obtain ⟨Z, hZ, hz⟩ := zeroRS'
  have S0 := hx (rs_start m a c w Z hZ)
  have HL := hx hl
  have HN := hx hn
  clear hZ hl hn
  go_enter Tryz.func42, Tryz.ntmps42
  go_upto_region 1 with fail
  clear hz
  generalize (w.alloc (.cells (rsd m a c).toArray 40)).alloc (.cells Z 40) = w2 at *
  have HS2 := hx (show w.heap.size + 2 ≤ w2.heap.size from by have := S0.out.2.1.lt; omega)
  go_wp2_with fail
  go_loopw [6, 7] (fun s6 s7 wr => ∃ (i : Nat) (out : List Qd.It) (ao : Option Addr) (co : Nat), s6 = .slice ao out.length co ∧ s7 = .int .i64 (i : Int) ∧ Hx (i ≤ m.s.length) ∧ Hx (out = forgS kind (m.s.take i)) ∧ Hx (wr.ownsRow w2.heap.size 121 12 (.slice ao out.length co) out.length (itC out)) ∧ Hx (Kept [] w2 wr)) (fun _ s7 _ => m.s.length - (intOf s7).toNat)
  case atStart => exact ⟨0, [], none, 0, rfl, rfl, hx (Nat.zero_le _), hx (by rw [List.take_zero]; rfl), hx (World.ownsRow_nil _ _ _ _), hx (Kept.refl _ _)⟩
  case round =>
    obtain ⟨i, out, ao, co, rfl, rfl, HI, HOE, HO, HK⟩ := hrel
    have B := HK.out.blk S0.out.1 (by simp)
    have cl := B.cell (i := 161) (v := .slice a m.s.length c) (rsd_at m a c 5)
    have HB := hx B
    clear B
    by_cases hil : i < m.s.length
    · have hiI : (i : Int) < (m.s.length : Int) := by omega
      have hi3 : (i : Int) ≤ 300 := by have := HN.out; omega
      have HIL := hx hil
      obtain ⟨y, hy⟩ : ∃ y, m.s[i]? = some y := ⟨_, List.getElem?_eq_getElem hil⟩
      obtain ⟨gr, og, rfl, hra0⟩ := HL.out.range hy
      have hra : wr.rangeAt gr (og + i * 12) (snt y.rank y.v) := (S0.out.2.2.trans0 HK.out).range hra0 (by simp)
      have ck := hra 1 (.int .i64 y.v.d.kind) rfl
      have HY := hx hy
      have HLE := hx (show out.length ≤ 300 from by rw [HOE.out]; have := forg_len kind m.s i; have := HN.out; omega)
      clear hy hil hra0
      by_cases hk : y.v.d.kind = kind
      · have dk : (y.v.d.kind != kind) = false := by simpa using hk
        have HKD := hx hk
        clear hk hra
        go_wp2_with fail
        go_roundw
        case rel => exact ⟨i + 1, out, ao, co, rfl, by push_cast; rfl, hx (by have := HIL.out; omega), hx (by rw [forg_no HY.out HKD.out]; exact HOE.out), HO, HK⟩
        case measure =>
          simp only [intOf]
          have := HIL.out
          omega
      · have dk : (y.v.d.kind != kind) = true := by simpa using hk
        have HKD := hx hk
        clear hk
        go_upto_region 6 with fail
        clear ck
        go_wp2_with (first
          | (refine wpList_load_mid rfl 121 (.tmp 29) rfl gr (og + i * 12) rfl (snt y.rank y.v) _ hra Tryz.underlying121 rfl infoRi ?_)
          | (refine wpList_bs1 rfl 38 121 (.tmp 30) rfl 12 96 _ infoRi3 (snt y.rank y.v) rfl rfl (by omega) (by omega) Tryz.underlying38 ?_; intro w5 hb5 hk5; have B5 := hx hb5; have K5 := hx (HK.out.trans0 hk5); have O5 := hx (Qd.own_kept3 HO.out (fun g cs hv hg => hk5.block g (Array.getElem?_eq_some_iff.1 hg).1 (by simp))); clear hb5 hk5; refine it_app rfl (.tmp 25) (.tmp 31) rfl w2.heap.size _ out rfl O5.out _ y rfl B5.out (by have := HLE.out; omega) K5.out.size ?_; intro v6 w6 ho6 hg6; obtain ⟨a6, c6, h6⟩ := Qd.own_slice ho6; subst h6; have O6 := hx ho6; have K6 := hx (K5.out.grown hg6 (fun g hg => .inr (O5.out.lt g hg).1)); clear ho6 hg6))
        go_roundw
        case rel => exact ⟨i + 1, out ++ [y], a6, c6, by rw [List.length_append]; rfl, by push_cast; rfl, hx (by have := HIL.out; omega), hx (by rw [forg_yes HY.out HKD.out, HOE.out]), O6, K6⟩
        case measure =>
          simp only [intOf]
          have := HIL.out
          omega
    · obtain rfl : i = m.s.length := by have := HI.out; omega
      clear hil
      have HOF := hx (show out = forgS kind m.s from by rw [HOE.out, List.take_length])
      have hbn : (m.s.length : Int) ≤ 300 ∧ (out.length : Int) ≤ 300 := by
        have h1 := HN.out
        have h2 := forg_len kind m.s m.s.length
        rw [HOE.out]
        omega
      have hf := HB.out.free
      go_upto_region 9 with fail
      generalize hw7 : World.setCell wr _ _ = w7
      have B7 := hx (show Blk w7 w.heap.size (rsd { m with s := forgS kind m.s } ao co) 40 from by
        rw [← hw7]
        have h := HB.out.set 161 (.slice ao out.length co)
        rw [show (161 : Nat) = 156 + 5 from rfl, rsd_set, forg_rsd m kind a ao c co out.length (by rw [HOF.out])] at h
        exact h)
      have R7 := hx (show Blk w7 (w.heap.size + 1) (rsd ms00 none 0) 40 from by rw [← hw7]; exact (HK.out.blk S0.out.2.1 (by simp)).set_ne (by simp) _)
      have K7 := hx (show Kept [w.heap.size] wr w7 from by rw [← hw7]; exact (Kept.refl _ _).setCell (.inl (by simp)) _)
      have RW := hx (Qd.own_kept3 HO.out (fun g cs hv hg => K7.out.block g (Array.getElem?_eq_some_iff.1 hg).1 (by have h1 := (HO.out.lt g hv).1; have h2 := HS2.out; simp; omega)))
      have KW := hx ((S0.out.2.2.trans0 HK.out).trans K7.out (ds := []) (fun _ h => h) (fun g hg => by simp at hg; subst hg; exact .inr (Nat.le_refl _)))
      clear hw7 cl hf
      go_wp2_with (first
        | (refine load_blk rfl 40 (.tmp 2) rfl w.heap.size rfl 40 _ _ B7.out Tryz.underlying40 rfl (infoRs2 _ _ _) ?_)
        | (refine store_blk rfl 40 (.tmp 4) (.tmp 41) rfl (w.heap.size + 1) rfl 40 _ (rsd { m with s := forgS kind m.s } ao co) rfl R7.out (by rw [rsd_len, rsd_len]) (infoRs2 _ _ _) (rsd_one _ _ _) ?_; intro w8 hb8 hk8))
      refine bodyPost_ret (Qd.ret_blk2 rfl _ (w.heap.size + 1) _ _ _ _ rfl rfl hb8 Tryz.underlying40 rfl (infoRs2 _ _ _)) rfl ⟨ao, co, by rw [← HOF.out]; rfl, ?_, Kept.behind KW.out hk8 (by omega)⟩
      have hr8 := Qd.own_kept3 RW.out (fun g cs hv hg => hk8.block g (Array.getElem?_eq_some_iff.1 hg).1 (by have h1 := (RW.out.lt g hv).1; have h2 := HS2.out; simp; omega))
      rw [← HOF.out]
      exact RL.own hr8 rfl
end Go.Proofs.YtgdofgckjkmhjaaGreat.Mp
namespace Go.Proofs.YtgdofgckjkmhjaaGreat.Mp
open Go Go.RowKit
open Qd (dvl dv0 dvl_one infoDg step_of)
set_option maxRecDepth 100000 in
set_option maxHeartbeats 1600000 in
theorem do1_m (x : Qd.Dv) (B : Nat) (kind : Int) (w : World) (hB : w.cell? ⟨B, 0, none⟩ = some (.int .i64 kind)) :
    Calls Tryz.prog 41 #[.agg (dvl x).toArray, .pointer (some ⟨B, 0, none⟩)] w fun e w' => e = .returned (.bool (decide (x.d.kind = kind))) ∧ Kept [] w w' := by
  have hb := Blk.new w (dvl x) 50
  have c0 := hb.cell (i := 0) (v := .int .i64 x.d.kind) rfl
  have cB := kept_cell' ((Kept.refl [] w).alloc (.cells (dvl x).toArray 50)) hB
  clear hb hB
  by_cases h : x.d.kind = kind
  · have d1 : (x.d.kind == kind) = true := by simpa using h
    rw [decide_eq_true h]
    clear h
    go_enter Tryz.func41, Tryz.ntmps41
    go_wp2
    go_ret
    exact ⟨rfl, (Kept.refl _ _).alloc _⟩
  · have d1 : (x.d.kind == kind) = false := by simpa using h
    rw [decide_eq_false h]
    clear h
    go_enter Tryz.func41, Tryz.ntmps41
    go_wp2
    go_ret
    exact ⟨rfl, (Kept.refl _ _).alloc _⟩
set_option maxRecDepth 100000 in
set_option maxHeartbeats 1600000 in
theorem forg1_m (x : Qd.Dv) (B C : Nat) (kind : Int) (w : World) (hB : w.cell? ⟨B, 0, none⟩ = some (.int .i64 kind)) (hC : w.cell? ⟨C, 0, none⟩ = some (.func (.func 41) #[] #[.pointer (some ⟨B, 0, none⟩)])) :
    Calls Tryz.prog 70 #[.agg (dvl x).toArray, .pointer (some ⟨C, 0, none⟩)] w fun e w' => e = .returned (.bool (!decide (x.d.kind = kind))) ∧ Kept [] w w' := by
  have hb := Blk.new w (dvl x) 50
  have K0 := hx ((Kept.refl [] w).alloc (.cells (dvl x).toArray 50))
  have HB := hx hb
  have HD := hx (fun (W : World) (hk : Kept [] w W) => do1_m x B kind W (kept_cell' hk hB))
  have cC := kept_cell' K0.out hC
  clear hb hB hC
  obtain ⟨b, hbe⟩ : ∃ b, decide (x.d.kind = kind) = b := ⟨_, rfl⟩
  rw [hbe] at HD
  rw [hbe]
  clear hbe
  go_enter Tryz.func70, Tryz.ntmps70
  go_upto_region 1 with fail
  generalize hw1 : World.alloc w _ = w1
  have B1 := hx (show Blk w1 w.heap.size (dvl x) 50 from by rw [← hw1]; exact HB.out)
  have K1 := hx (show Kept [] w w1 from by rw [← hw1]; exact K0.out)
  have c1 : w1.cell? ⟨C, 0, none⟩ = some (.func (.func 41) #[] #[.pointer (some ⟨B, 0, none⟩)]) := by rw [← hw1]; exact cC
  clear hw1 cC HB K0
  go_wp2_with (first
    | (refine load_blk rfl 50 (.tmp 2) rfl w.heap.size rfl 50 _ _ B1.out Tryz.underlying50 rfl infoDg ?_)
    | (refine (HD.out _ K1.out).mono ?_; rintro e w2 ⟨rfl, hk2⟩; have K2 := hx hk2; clear hk2))
  go_ret
  exact ⟨rfl, K1.out.trans0 K2.out⟩
end Go.Proofs.YtgdofgckjkmhjaaGreat.Mp
namespace Go.Proofs.YtgdofgckjkmhjaaGreat.Mp
open Go Go.RowKit
open Qd (dvl dv0 dvl_one infoDg step_of itc it0 cel at_)
theorem qi_app {w : World} {ops : Array Oper} {rest : List Oper} {o : Oper} {a : Act} {Q : Exit → Act → World → Prop} (hgd : o.guard = none) (s x : Operand)
    (ho : o.op = .call { callee := .builtin .append, args := #[s, x], argTypes := #[106, 106] })
    (base : Nat) (v : Value) (l : List Qd.It) (hs : a.eval s = v) (hown : w.ownsRow base 110 13 v l.length (cel l))
    (g : Nat) (y : Qd.It) (hx : a.eval x = .slice (some ⟨g, 0, none⟩) 1 1) (hb : Blk w g (itc y) 110) (hroom : l.length ≤ 1000000) (hbase : base ≤ w.heap.size)
    (h : ∀ v' w', w'.ownsRow base 110 13 v' (l ++ [y]).length (cel (l ++ [y])) → w.grownBy w' v.ownBlock → wpList Tryz.prog ops Q rest (a.put o.dst v') w') : wpList Tryz.prog ops Q (o :: rest) a w := by
  refine wpList_app hgd s x 106 ho base 110 (.agg (itc it0).toArray) 13 104 Qd.infoIt3 Tryz.underlying106 rfl (by omega) v l.length (cel l) hs hown (some ⟨g, 0, none⟩) 1 1 (itc y) hx rfl (by simp) (by omega) (newsP hb) (Qd.itc_one _) (by unfold maxLen; omega) (by omega) hbase ?_
  intro v' w' h1 h2
  refine h v' w' ?_ h2
  rw [List.length_append, show cel (l ++ [y]) = cel l ++ itc y by simp [cel]]
  exact h1
set_option linter.unusedSimpArgs false in
set_option maxRecDepth 100000 in
set_option maxHeartbeats 12800000 in
theorem filter_m (q B C : Nat) (v : Value) (room turns kind : Int) (h : List Qd.It) (w : World) (s : Qd.Qs w q v room turns h) (hB : w.cell? ⟨B, 0, none⟩ = some (.int .i64 kind)) (hC : w.cell? ⟨C, 0, none⟩ = some (.func (.func 41) #[] #[.pointer (some ⟨B, 0, none⟩)])) (hb : h.length ≤ 1000) :
    Calls Tryz.prog 69 #[.pointer (some ⟨q, 0, none⟩), .func (.func 70) #[] #[.pointer (some ⟨C, 0, none⟩)]] w fun e w' => ∃ v2, e = .returned (.int .i64 ((h.length : Int) - ((forgS kind h).length : Int))) ∧ Qd.Qs w' q v2 room turns (Qd.fixL (forgS kind h) ((forgS kind h).length / 2)) ∧ (∀ g, v2.ownBlock = some g → w.heap.size ≤ g) ∧ Kept [q] w w' := by
  have c2 := s.hq.cell (i := 2) rfl
  obtain ⟨a, c, rfl⟩ := Qd.own_slice s.own
  have HS := hx s
  have HFC := hx (fun (x : Qd.Dv) (W : World) (hk : Kept [] w W) => forg1_m x B C kind W (kept_cell' hk hB) (kept_cell' hk hC))
  have HN := hx hb
  have HFN := hx (show h.length = 0 ∨ ∃ g, a = some ⟨g, 0, none⟩ from by
    rcases s.own.2 with ⟨_, hn⟩ | ⟨g, cap, cur, h1, _⟩
    · exact .inl hn
    · simp at h1; exact .inr ⟨g, h1.1⟩)
  obtain ⟨n, hn⟩ : ∃ n, h.length = n := ⟨_, rfl⟩
  have HNE := hx hn
  rw [hn] at c2 hb
  clear s hB hC hn
  go_enter Tryz.func69, Tryz.ntmps69
  go_wp2_with fail
  clear c2
  go_loopw [5, 15] (fun s5 s15 wr => ∃ (i : Nat) (out : List Qd.It) (ao : Option Addr) (co : Nat), s5 = .slice ao out.length co ∧ s15 = .int .i64 (i : Int) ∧ Hx (i ≤ n) ∧ Hx (out = forgS kind (h.take i)) ∧ Hx (wr.ownsRow w.heap.size 110 13 (.slice ao out.length co) out.length (cel out)) ∧ Hx (Kept [] w wr)) (fun _ s15 _ => n - (intOf s15).toNat)
  case atStart => exact ⟨0, [], none, 0, rfl, rfl, hx (Nat.zero_le _), hx (by rw [List.take_zero]; rfl), hx (World.ownsRow_nil _ _ _ _), hx (Kept.refl _ _)⟩
  case round =>
    obtain ⟨i, out, ao, co, rfl, rfl, HI, HOE, HO, HK⟩ := hrel
    have HLE := hx (show out.length ≤ 1000 from by rw [HOE.out]; have := forg_len kind h i; have := HN.out; omega)
    by_cases hil : i < n
    · have hiI : (i : Int) < (n : Int) := by omega
      have hi3 : (i : Int) ≤ 1000 := by omega
      have HIL := hx hil
      have hih : i < h.length := by rw [HNE.out]; exact hil
      obtain ⟨g, cap, rest, he, mq⟩ := HS.out.toQm (by omega)
      simp only [Value.slice.injEq] at he
      obtain ⟨rfl, _, rfl⟩ := he
      have hra := HK.out.range (mq.at i hih) (by simp)
      obtain ⟨x, hxe⟩ : ∃ x, at_ h i = x := ⟨_, rfl⟩
      rw [hxe] at hra
      have HY := hx (show h[i]? = some x from by rw [← hxe, Qd.at_get h i hih, List.getElem?_eq_getElem hih])
      clear hil hih mq hxe
      go_upto_region 4 with fail
      go_upto_region 5 with (first
        | (refine wpList_load_mid rfl 110 (.tmp 17) rfl g (i * 13) rfl (itc x) _ hra Tryz.underlying110 rfl Qd.infoIt ?_)
        | (refine store_blk rfl 110 (.tmp 7) (.tmp 18) rfl wr.heap.size rfl 110 _ (itc x) rfl (Blk.new wr (itc it0) 110) rfl Qd.infoIt (Qd.itc_one _) ?_; intro w5 hb5 hk5; have B5 := hx hb5; have K5 := hx (HK.out.trans0 (((Kept.refl [] wr).alloc _).trans hk5 (ds := []) (fun _ h => h) (fun x h => by simp at h; subst h; exact .inr (Nat.le_refl _)))); have KW5 := hx (((Kept.refl [] wr).alloc (.cells (itc it0).toArray 110)).trans hk5 (ds := []) (fun _ h => h) (fun x h => by simp at h; subst h; exact .inr (Nat.le_refl _))); clear hb5 hk5))
      obtain ⟨g7, hg7⟩ : ∃ g, wr.heap.size = g := ⟨_, rfl⟩
      rw [hg7] at B5
      rw [hg7]
      have O5 := hx (Qd.own_kept3 HO.out (fun g cs hv hg => KW5.out.block g (Array.getElem?_eq_some_iff.1 hg).1 (by simp)))
      have hr7 : w5.rangeAt g7 2 (dvl x.v) := fun j u hu => B5.out.cell (by rw [show 2 + j = j + 1 + 1 by omega]; simpa [itc] using hu)
      clear hra hg7
      by_cases hk : x.v.d.kind = kind
      · have HKD := hx hk
        have HF := hx (fun (W : World) (hk2 : Kept [] w W) => show Calls Tryz.prog 70 #[.agg (dvl x.v).toArray, .pointer (some ⟨C, 0, none⟩)] W (fun e w' => e = .returned (.bool false) ∧ Kept [] W w') from by
          have h := HFC.out x.v W hk2
          rw [decide_eq_true hk] at h
          exact h)
        clear hk HFC
        go_wp2_with (first
          | (refine wpList_load_mid rfl 50 (.tmp 20) rfl g7 2 rfl (dvl x.v) _ hr7 Tryz.underlying50 rfl infoDg ?_)
          | (refine (HF.out _ K5.out).mono ?_; rintro e w6 ⟨rfl, hk6⟩; have K6 := hx hk6; clear hk6))
        go_roundw
        case rel => exact ⟨i + 1, out, ao, co, rfl, by push_cast; rfl, hx (by have := HIL.out; omega), hx (by rw [forg_no HY.out HKD.out]; exact HOE.out), hx (Qd.own_kept3 O5.out (fun g cs hv hg => K6.out.block g (Array.getElem?_eq_some_iff.1 hg).1 (by simp))), hx (K5.out.trans0 K6.out)⟩
        case measure =>
          simp only [intOf]
          have := HIL.out
          omega
      · have HKD := hx hk
        have HF := hx (fun (W : World) (hk2 : Kept [] w W) => show Calls Tryz.prog 70 #[.agg (dvl x.v).toArray, .pointer (some ⟨C, 0, none⟩)] W (fun e w' => e = .returned (.bool true) ∧ Kept [] W w') from by
          have h := HFC.out x.v W hk2
          rw [decide_eq_false hk] at h
          exact h)
        clear hk HFC
        go_upto_region 6 with (first
          | (refine wpList_load_mid rfl 50 (.tmp 20) rfl g7 2 rfl (dvl x.v) _ hr7 Tryz.underlying50 rfl infoDg ?_)
          | (refine (HF.out _ K5.out).mono ?_; rintro e w6 ⟨rfl, hk6⟩; have K6 := hx (K5.out.trans0 hk6); have B6 := hx (hk6.blk B5.out (by simp)); have O6 := hx (Qd.own_kept3 O5.out (fun g cs hv hg => hk6.block g (Array.getElem?_eq_some_iff.1 hg).1 (by simp))); clear hk6))
        clear hr7
        go_wp2_with (first
          | (refine load_blk rfl 110 (.tmp 7) rfl g7 rfl 110 _ _ B6.out Tryz.underlying110 rfl Qd.infoIt ?_)
          | (refine wpList_bs1 rfl 106 110 (.tmp 24) rfl 13 104 _ Qd.infoIt3 (itc x) rfl rfl (by omega) (by omega) Tryz.underlying106 ?_; intro w7 hb7 hk7; have B7 := hx hb7; have K7 := hx (K6.out.trans0 hk7); have O7 := hx (Qd.own_kept3 O6.out (fun g cs hv hg => hk7.block g (Array.getElem?_eq_some_iff.1 hg).1 (by simp))); clear hb7 hk7; refine qi_app rfl (.tmp 23) (.tmp 25) rfl w.heap.size _ out rfl O7.out _ x rfl B7.out (by have := HLE.out; omega) K7.out.size ?_; intro v8 w8 ho8 hg8; obtain ⟨a8, c8, h8⟩ := Qd.own_slice ho8; subst h8; have O8 := hx ho8; have K8 := hx (K7.out.grown hg8 (fun g hg => .inr (O7.out.lt g hg).1)); clear ho8 hg8))
        go_roundw
        case rel => exact ⟨i + 1, out ++ [x], a8, c8, by rw [List.length_append]; rfl, by push_cast; rfl, hx (by have := HIL.out; omega), hx (by rw [forg_yes HY.out HKD.out, HOE.out]), O8, K8⟩
        case measure =>
          simp only [intOf]
          have := HIL.out
          omega
    · obtain rfl : i = n := by have := HI.out; omega
      have HE := hx (show out = forgS kind h from by rw [HOE.out, ← HNE.out, List.take_length])
      have hq0 := HK.out.blk HS.out.hq (by simp)
      have e2 := hq0.cell (i := 2) rfl
      have hf := hq0.free
      have hol : (out.length : Int) ≤ 1000 := by have := HLE.out; omega
      have hnl : (i : Int) ≤ 1000 := by omega
      have HUB := hx (fun g hg => (HO.out.lt g hg).1)
      have HQS := hx (show Qd.Qs (wr.setCell ⟨q, 2, none⟩ (.slice ao out.length co)) q (.slice ao out.length co) room turns out from
        ⟨hq0.set 2 (.slice ao out.length co), (Qd.own_kept3 HO.out (fun g cs hv hg => ((Kept.refl [q] wr).setCell (p := ⟨q, 2, none⟩) (.inl (by simp)) (.slice ao out.length co)).block g (Array.getElem?_eq_some_iff.1 hg).1 (by
            have g1 := (HO.out.lt g hv).1
            have g2 := HS.out.hq.lt
            simp
            omega))).mono (Nat.zero_le _), fun e => by
            have g1 := (HO.out.lt q e).1
            have g2 := HS.out.hq.lt
            omega⟩)
      have HK2 := hx ((HK.out.mono (cs := [q]) (fun x hx => by simp at hx)).setCell (p := ⟨q, 2, none⟩) (.inl (by simp)) (.slice ao out.length co))
      clear hq0 HO HK HOE hil HI
      obtain ⟨N, hNN⟩ : ∃ N, out.length = N := ⟨_, rfl⟩
      rw [hNN] at HQS HK2 HUB hol HLE
      rw [hNN]
      have HNN := hx hNN
      clear hNN
      have hw64 : wrap64 ((i : Int) - (N : Int)) = (i : Int) - (N : Int) := by
        unfold wrap64
        omega
      go_upto_region 10 with fail
      clear e2 hf
      generalize World.setCell wr _ _ = W2 at *
      have e2 := HQS.out.hq.cell (i := 2) rfl
      go_wp2_with fail
      go_loopw [9] (fun iv wr => ∃ (k : Nat) (h2 : List Qd.It) (j : Int), iv = .int .i64 j ∧ j = (k : Int) - 1 ∧ k ≤ N / 2 ∧ h2.length = N ∧ Qd.fixL h2 k = Qd.fixL out (N / 2) ∧ Qd.Qs wr q (.slice ao N co) room turns h2 ∧ Kept [q] w wr) (fun iv _ => (intOf iv + 1).toNat)
      case atStart => exact ⟨N / 2, out, _, rfl, by omega, by omega, HNN.out, rfl, HQS.out, HK2.out⟩
      case round =>
        clear HQS HK2 e2
        obtain ⟨k, h2, j, rfl, hj, hk, hl2, hfx, hqs, hk2⟩ := hrel
        have HF := hx hfx
        have HKK := hx hk2
        have HL2 := hx hl2
        cases k with
        | zero =>
          obtain rfl : j = -1 := by omega
          have HQ2 := hx hqs
          clear hj
          clear hfx hk2 hqs hl2
          go_wp2_with fail
          go_ret
          refine ⟨.slice ao N co, ?_, ?_, HUB.out, HKK.out⟩
          · rw [← HE.out, HNN.out, HNE.out]
            exact congrArg (fun z => Ending.returned (Value.int .i64 z)) hw64
          · rw [← HE.out, HNN.out, ← HF.out]; exact HQ2.out
        | succ k =>
          obtain rfl : j = (k : Int) := by omega
          clear hj
          obtain ⟨g, cap, rest, he, m⟩ := hqs.toQm (by omega)
          have HD := hx (Qd.down_any q g cap k room turns h2 rest wr m (by omega) (by omega))
          have HGE := hx (show w.heap.size ≤ g from HUB.out g (by rw [he]; rfl))
          have HEE := hx he
          have HLN2 := hx (Qd.down_len h2.length h2 k (by omega))
          clear hfx hk2 hqs hl2 he m
          go_wp2_with fail
          refine HD.out.mono ?_
          rintro e w4 ⟨rfl, m4, hk4⟩
          have HQ4 := hx (show Qd.Qs w4 q (.slice ao N co) room turns (Qd.downL h2 k) by
            have g1 := m4.toQs
            rw [HLN2.out, ← HEE.out] at g1
            exact g1)
          have HK4 := hx (HKK.out.trans hk4 (fun _ h => h) (fun x h => by simp at h; subst h; exact .inr HGE.out))
          clear m4 hk4 HD
          go_wp2_with fail
          go_roundw
          case rel => exact ⟨k, Qd.downL h2 k, (k : Int) - 1, by first | rfl | (push_cast; rfl), rfl, by omega, by rw [HLN2.out]; exact HL2.out, HF.out, HQ4.out, HK4.out⟩
          case measure => simp [intOf] <;> omega
end Go.Proofs.YtgdofgckjkmhjaaGreat.Mp
namespace Go.Proofs.YtgdofgckjkmhjaaGreat.Mp
open Go Go.RowKit
def Lk (x y : Qd.It) : Prop := x.rank = y.rank ∧ x.turn = y.turn ∧ x.v.d = y.v.d
def LkL : List Qd.It → List Qd.It → Prop
  | [], [] => True
  | x :: s, y :: r => Lk x y ∧ LkL s r
  | _, _ => False
def LkP : List (Nat × Qd.Dv) → List (Nat × Qd.Dv) → Prop
  | [], [] => True
  | x :: s, y :: r => (x.1 = y.1 ∧ x.2.d = y.2.d) ∧ LkP s r
  | _, _ => False
theorem LkL.len : ∀ {s r : List Qd.It}, LkL s r → s.length = r.length
  | [], [], _ => rfl
  | _ :: s, _ :: r, h => by
    have := LkL.len (s := s) (r := r) h.2
    simp [this]
  | [], _ :: _, h => h.elim
  | _ :: _, [], h => h.elim
theorem LkP.len : ∀ {s r : List (Nat × Qd.Dv)}, LkP s r → s.length = r.length
  | [], [], _ => rfl
  | _ :: s, _ :: r, h => by
    have := LkP.len (s := s) (r := r) h.2
    simp [this]
  | [], _ :: _, h => h.elim
  | _ :: _, [], h => h.elim
theorem LkP.app : ∀ {s r a b : List (Nat × Qd.Dv)}, LkP s r → LkP a b → LkP (s ++ a) (r ++ b)
  | [], [], _, _, _, g => g
  | _ :: s, _ :: r, _, _, h, g => ⟨h.1, LkP.app (s := s) (r := r) h.2 g⟩
  | [], _ :: _, _, _, h, _ => h.elim
  | _ :: _, [], _, _, h, _ => h.elim
theorem lk_ins : ∀ {s r : List Qd.It} {x y : Qd.It}, LkL s r → Lk x y → LkL (Qd.insS s x) (Qd.insS r y)
  | [], [], x, y, _, g => ⟨g, trivial⟩
  | a :: s, b :: r, x, y, h, g => by
    unfold Qd.insS
    rw [show x.rank = y.rank from g.1, show a.rank = b.rank from h.1.1]
    split
    · exact ⟨g, h⟩
    · exact ⟨h.1, lk_ins h.2 g⟩
  | [], _ :: _, _, _, h, _ => h.elim
  | _ :: _, [], _, _, h, _ => h.elim
theorem lk_drop : ∀ {s r : List Qd.It}, LkL s r → LkL s.dropLast r.dropLast
  | [], [], _ => trivial
  | [_], [_], _ => trivial
  | a :: c :: s, b :: d :: r, h => ⟨h.1, lk_drop (s := c :: s) (r := d :: r) h.2⟩
  | [_], _ :: _ :: _, h => h.2.elim
  | _ :: _ :: _, [_], h => h.2.elim
  | [], _ :: _, h => h.elim
  | _ :: _, [], h => h.elim
theorem lk_push {room : Int} {s r : List Qd.It} {x y : Qd.It} (h : LkL s r) (g : Lk x y) : LkL (pushS room s x) (pushS room r y) := by
  have h2 := lk_ins h g
  unfold pushS
  rw [h2.len]
  split
  · exact lk_drop h2
  · exact h2
theorem lk_forg {kind : Int} : ∀ {s r : List Qd.It}, LkL s r → LkL (forgS kind s) (forgS kind r)
  | [], [], _ => trivial
  | a :: s, b :: r, h => by
    have hk : keepK kind a = keepK kind b := by unfold keepK; rw [h.1.2.2]
    have h2 := lk_forg (kind := kind) h.2
    unfold forgS at *
    rw [List.filter_cons, List.filter_cons, hk]
    split
    · exact ⟨h.1, h2⟩
    · exact h2
  | [], _ :: _, h => h.elim
  | _ :: _, [], h => h.elim
/-- The sender with another list. -/
def Ms.wS (m : Ms) (r : List Qd.It) : Ms := { m with s := r }
theorem stM_wS (m : Ms) (r : List Qd.It) (i : Nat) : stM (m.wS r) i = (stM m i).wS r := by
  unfold stM Ms.setW Ms.way Ms.wS
  split <;> rfl
theorem stA_like {m : Ms} {r : List Qd.It} {x y : Qd.Dv} {l : List Nat} (hx : x.d = y.d) : ∀ n, (stA (m.wS r) y l n).1 = (stA m x l n).1.wS r ∧ LkP (stA m x l n).2 (stA (m.wS r) y l n).2
  | 0 => ⟨rfl, trivial⟩
  | n + 1 => by
    obtain ⟨h1, h2⟩ := stA_like (m := m) (r := r) (l := l) hx n
    refine ⟨?_, ?_⟩
    · show stM (stA (m.wS r) y l n).1 (l.getD n 0) = (stM (stA m x l n).1 (l.getD n 0)).wS r
      rw [h1, stM_wS]
    · refine LkP.app h2 ⟨⟨rfl, ?_⟩, trivial⟩
      show (stD (stA m x l n).1 (l.getD n 0) x).d = (stD (stA (m.wS r) y l n).1 (l.getD n 0) y).d
      rw [h1]
      unfold stD
      simp only
      rw [hx]
      rfl
theorem flush_like : ∀ {s r : List Qd.It} {m : Ms} {r0 : List Qd.It}, LkL s r → LkL m.s r0 → ∃ r1, (flushL r (m.wS r0)).1 = (flushL s m).1.wS r1 ∧ LkL (flushL s m).1.s r1 ∧ LkP (flushL s m).2 (flushL r (m.wS r0)).2
  | [], [], m, r0, _, g => ⟨r0, rfl, g, trivial⟩
  | it :: s, jt :: r, m, r0, h, g => by
    have hsz : sizeI it.v = sizeI jt.v := by unfold sizeI; rw [h.1.2.2]
    have hch : choM (m.wS r0) jt.rank = choM m it.rank := by rw [← h.1.1]; rfl
    have hw : waysF (m.wS r0) jt = waysF m it := by
      unfold waysF
      rw [hch, ← hsz]
      rfl
    have hh : (m.wS r0).held = m.held := rfl
    rw [flushL, flushL, hw, ← hsz, hh]
    split
    · have hg1 : (goF (m.wS r0) jt r).1 = (goF m it s).1.wS r ∧ LkP (goF m it s).2 (goF (m.wS r0) jt r).2 := by
        unfold goF
        rw [hw, ← hsz]
        exact stA_like (m := { takeM m (sizeI it.v * ((waysF m it).length : Int)) with s := s }) (r := r) (l := waysF m it) h.1.2.2 _
      have hgs : (goF m it s).1.s = s := by unfold goF; rw [stA_s]
      obtain ⟨r1, h1, h2, h3⟩ := flush_like (s := s) (r := r) (m := (goF m it s).1) (r0 := r) h.2 (by rw [hgs]; exact h.2)
      refine ⟨r1, ?_, h2, ?_⟩
      · rw [hg1.1]; exact h1
      · rw [hg1.1]; exact LkP.app hg1.2 h3
    · exact ⟨r0, rfl, g, trivial⟩
  | [], _ :: _, _, _, h, _ => h.elim
  | _ :: _, [], _, _, h, _ => h.elim
theorem way_wS (m : Ms) (r : List Qd.It) (i : Nat) : (m.wS r).way i = m.way i := by
  unfold Ms.way Ms.wS
  split <;> rfl
theorem setW_wS (m : Ms) (r : List Qd.It) (i : Nat) (p : Pa) : (m.wS r).setW i p = (m.setW i p).wS r := by
  unfold Ms.setW Ms.wS
  split <;> rfl
theorem tick1_like (m : Ms) (r : List Qd.It) (i : Nat) : (tick1 (m.wS r) i).1 = (tick1 m i).1.wS r ∧ (tick1 (m.wS r) i).2 = (tick1 m i).2 := by
  unfold tick1
  rw [way_wS, setW_wS, show (m.wS r).held = m.held from rfl]
  split
  · have e : takeM ((m.setW i (tickP (m.way i)).1).wS r) 33 = (takeM (m.setW i (tickP (m.way i)).1) 33).wS r := rfl
    rw [e, stM_wS]
    refine ⟨rfl, ?_⟩
    unfold stD
    rw [way_wS]
    rfl
  · exact ⟨rfl, rfl⟩
theorem acc_like (m : Ms) (r : List Qd.It) : ∀ i, (accM (m.wS r) i).1 = (accM m i).1.wS r ∧ (accM (m.wS r) i).2 = (accM m i).2
  | 0 => ⟨rfl, rfl⟩
  | i + 1 => by
    obtain ⟨h1, h2⟩ := acc_like m r i
    obtain ⟨g1, g2⟩ := tick1_like (accM m i).1 r i
    refine ⟨?_, ?_⟩
    · show (tick1 (accM (m.wS r) i).1 i).1 = _
      rw [h1, g1]
      rfl
    · show (accM (m.wS r) i).2 ++ (tick1 (accM (m.wS r) i).1 i).2 = (accM m i).2 ++ (tick1 (accM m i).1 i).2
      rw [h1, h2, g2]
theorem tick_like (m : Ms) (r : List Qd.It) : (tickM (m.wS r)).1 = (tickM m).1.wS r ∧ (tickM (m.wS r)).2 = (tickM m).2 := acc_like m r 2
/-- A push at both. -/
theorem push_like {m : Ms} {r : List Qd.It} {rank : Int} {x y : Qd.Dv} (h : LkL m.s r) (hx : x.d = y.d) : ∃ r1, pushR (m.wS r) rank y = (pushR m rank x).wS r1 ∧ LkL (pushR m rank x).s r1 := by
  refine ⟨pushS m.room r ⟨rank, m.turns + 1, y⟩, ?_, lk_push h ⟨rfl, rfl, hx⟩⟩
  unfold pushR pushM Ms.wS goneB
  simp only [h.len]
theorem forg_like {m : Ms} {r : List Qd.It} {kind : Int} (h : LkL m.s r) : LkL (forgS kind m.s) (forgS kind r) := lk_forg h
theorem trip_like (m : Ms) (r : List Qd.It) (i b : Nat) : (m.wS r).setW i { (m.wS r).way i with s := tripS ((m.wS r).way i).s b } = (m.setW i { m.way i with s := tripS (m.way i).s b }).wS r := by
  rw [way_wS, setW_wS]
end Go.Proofs.YtgdofgckjkmhjaaGreat.Mp
namespace Go.Proofs.YtgdofgckjkmhjaaGreat.Mp
open Go Go.RowKit
open Qd (dvl dv0 dvl_one infoDg step_of)
theorem forg_mem {kind : Int} {l : List Qd.It} {x : Qd.It} (h : x ∈ forgS kind l) : x ∈ l := (List.mem_filter.1 h).1
theorem Sr.forgot {w w' : World} {s b q : Nat} {v v2 : Value} {m : Ms} {kind : Int} {h : List Qd.It} (r : Sr w s b q v m) (hr : Qd.Rp h m.turns m.s) (hq : Qd.Qs w' q v2 m.room m.turns (Qd.fixL (forgS kind h) ((forgS kind h).length / 2))) (hk : Kept [q] w w') (hv : ∀ g, v2.ownBlock = some g → w.heap.size ≤ g) : Sr w' s b q v2 (m.wS (forgS kind m.s)) := by
  have n := r.ne
  refine ⟨hk.blk r.hs (by have := n.sq; simp; omega), hk.blk r.hb (by have := n.bq; simp; omega), ⟨_, hq, hr.filter (keepK kind)⟩, fun x hx => ?_⟩
  refine (r.dat x (forg_mem hx)).next hk (fun g hg => .inl (by simp at hg; subst hg; simp [own])) (fun g hg => ?_)
  simp only [own, List.mem_cons, Option.mem_toList] at hg
  rcases hg with h1 | h1 | h1 | h1
  · exact .inl (by simp [own, h1])
  · exact .inl (by simp [own, h1])
  · exact .inl (by simp [own, h1])
  · exact .inr (hv g h1)
set_option linter.unusedSimpArgs false in
set_option maxRecDepth 100000 in
set_option maxHeartbeats 3200000 in
theorem forget_m (s b q B : Nat) (v : Value) (m : Ms) (kind : Int) (w : World) (r : Sr w s b q v m) (hB : w.cell? ⟨B, 0, none⟩ = some (.int .i64 kind)) (hn : m.s.length ≤ 1000) :
    Calls Tryz.prog 40 #[.pointer (some ⟨s, 0, none⟩), .func (.func 41) #[] #[.pointer (some ⟨B, 0, none⟩)]] w fun e w' => ∃ v2, e = .returned (.int .i64 ((m.s.length : Int) - ((forgS kind m.s).length : Int))) ∧ Sr w' s b q v2 (m.wS (forgS kind m.s)) ∧ Kept [q] w w' ∧ (∀ g, v2.ownBlock = some g → w.heap.size ≤ g) := by
  have HR := hx r
  obtain ⟨h, hq, hr⟩ := r.hq
  have HRP := hx hr
  have HLN := hx hr.len
  have HLF := hx ((hr.filter (keepK kind)).len.trans (Qd.fix_len _ _))
  have cq := r.hs.cell (i := 31) (v := .pointer (some ⟨q, 0, none⟩)) rfl
  have K0 := hx ((Kept.refl [] w).alloc (.cells #[.func (.func 41) #[] #[.pointer (some ⟨B, 0, none⟩)]] 103))
  have C0 := hx (Blk.new w [.func (.func 41) #[] #[.pointer (some ⟨B, 0, none⟩)]] 103)
  have HBC := hx hB
  have HQ := hx hq
  have HN := hx hn
  clear r hq hr hB hn
  go_enter Tryz.func40, Tryz.ntmps40
  go_upto_region 1 with fail
  generalize hw1 : World.alloc w _ = w1
  have K1 := hx (show Kept [] w w1 from by rw [← hw1]; exact K0.out)
  have c1 := kept_cell' K1.out cq
  have HF := hx (filter_m q B w.heap.size v m.room m.turns kind h w1 (qs_kept HQ.out K1.out (by simp) (by simp)) (kept_cell' K1.out HBC.out) (by rw [← hw1]; exact C0.out.cell (i := 0) rfl) (by have h1 := HLN.out; have h2 := HN.out; omega))
  clear hw1 cq K0 C0
  go_wp2_with (go_at_call 69; refine HF.out.mono ?_; rintro e w2 ⟨v2, rfl, hq2, hv2, hk2⟩; have Q2 := hx hq2; have V2 := hx hv2; have K2 := hx hk2; clear hq2 hv2 hk2)
  go_ret
  have hs1 := K1.out.size
  have kk : Kept [q] w w2 := (K1.out.mono (by simp)).trans K2.out (fun _ h => h) (fun g hg => .inl hg)
  refine ⟨v2, ?_, HR.out.forgot HRP.out Q2.out kk (fun g hg => by have := V2.out g hg; omega), kk, fun g hg => by have := V2.out g hg; omega⟩
  rw [HLN.out, show (forgS kind m.s).length = (forgS kind h).length from HLF.out]
  rfl
end Go.Proofs.YtgdofgckjkmhjaaGreat.Mp
namespace Go.Proofs.YtgdofgckjkmhjaaGreat
open Go Go.RowKit Go.ChangeShapes Go.WideShapes
set_option maxRecDepth 100000
theorem bts_none (w : World) : Bts w none 0 0 [] := ⟨rfl, Nat.le_refl _, Nat.zero_le _, fun _ => rfl, fun i hi => absurd hi (by simp)⟩
theorem byte_of {H : Type} {enc : TypeId × Value → H} {w : World} {base : Nat} {held : Bool} {fuel : Nat} {v : Value} {x : DataW H × List MemPlace} (h : DataW.trod enc Tryz.prog w base (fun _ => true) held fuel 48 [v] = some x) : ∃ a n c l, v = .slice a n c ∧ Bts w a n c l := by
  rcases open_ints Tryz.underlying48 Tryz.underlying5 (by kernel_rfl) h with ⟨h1, _⟩ | ⟨a, len, cap, zs, h1, _, hl, hm, hz, _, hc, hw⟩
  · exact ⟨none, 0, 0, [], by simpa using h1, bts_none _⟩
  · obtain ⟨l, hb⟩ := bts_of (w := w) (a := some a) (len := len) (cap := cap) (zs := zs) (.inr ⟨a, rfl, hl, hm, by simpa using hz, hc, hw⟩)
    exact ⟨some a, len, cap, l, by simpa using h1, hb⟩
open Go.ChangeShapes Go.WideShapes in
theorem dg_of {H : Type} {enc : TypeId × Value → H} {w : World} {base : Nat} {held : Bool} {cs : List Value} (h : Rd enc Tryz.prog w base (fun _ => true) held 50 cs) : ∃ d p c, cs = dgl d p c ∧ Bts w p d.data.length c d.data ∧ DgFits d := by
  have hl := h.len Tryz.underlying50
  rw [show Tryz.prog.cellsOf 50 = 11 by kernel_rfl] at hl
  have ci : Tryz.prog.cellsOf 3 = 1 := by kernel_rfl
  have cu : Tryz.prog.cellsOf 29 = 1 := by kernel_rfl
  have cb : Tryz.prog.cellsOf 48 = 1 := by kernel_rfl
  obtain ⟨n0, e0, f0⟩ := (h.field Tryz.underlying50 0 _ rfl).int Tryz.underlying3
  obtain ⟨n1, e1, f1⟩ := (h.field Tryz.underlying50 1 _ rfl).int Tryz.underlying29
  obtain ⟨n2, e2, f2⟩ := (h.field Tryz.underlying50 2 _ rfl).int Tryz.underlying29
  obtain ⟨n3, e3, f3⟩ := (h.field Tryz.underlying50 3 _ rfl).int Tryz.underlying3
  obtain ⟨n4, e4, f4⟩ := (h.field Tryz.underlying50 4 _ rfl).int Tryz.underlying29
  obtain ⟨n5, e5, f5⟩ := (h.field Tryz.underlying50 5 _ rfl).int Tryz.underlying29
  obtain ⟨n6, e6, f6⟩ := (h.field Tryz.underlying50 6 _ rfl).int Tryz.underlying29
  obtain ⟨n7, e7, f7⟩ := (h.field Tryz.underlying50 7 _ rfl).int Tryz.underlying3
  obtain ⟨n8, e8, f8⟩ := (h.field Tryz.underlying50 8 _ rfl).int Tryz.underlying3
  obtain ⟨n9, e9, f9⟩ := (h.field Tryz.underlying50 9 _ rfl).int Tryz.underlying3
  obtain ⟨fuel, x, e10⟩ := h.field Tryz.underlying50 10 _ rfl
  try simp only [ci] at e0
  try simp only [cu] at e0
  try simp only [cb] at e0
  try simp only [ci] at e1
  try simp only [cu] at e1
  try simp only [cb] at e1
  try simp only [ci] at e2
  try simp only [cu] at e2
  try simp only [cb] at e2
  try simp only [ci] at e3
  try simp only [cu] at e3
  try simp only [cb] at e3
  try simp only [ci] at e4
  try simp only [cu] at e4
  try simp only [cb] at e4
  try simp only [ci] at e5
  try simp only [cu] at e5
  try simp only [cb] at e5
  try simp only [ci] at e6
  try simp only [cu] at e6
  try simp only [cb] at e6
  try simp only [ci] at e7
  try simp only [cu] at e7
  try simp only [cb] at e7
  try simp only [ci] at e8
  try simp only [cu] at e8
  try simp only [cb] at e8
  try simp only [ci] at e9
  try simp only [cu] at e9
  try simp only [cb] at e9
  try simp only [ci] at e10
  try simp only [cu] at e10
  try simp only [cb] at e10
  try rw [ci] at e0
  match cs, hl with
  | [v0, v1, v2, v3, v4, v5, v6, v7, v8, v9, v10], _ =>
    have g0 := at_of e0; have g1 := at_of e1; have g2 := at_of e2; have g3 := at_of e3; have g4 := at_of e4; have g5 := at_of e5
    have g6 := at_of e6; have g7 := at_of e7; have g8 := at_of e8; have g9 := at_of e9
    simp at g0 g1 g2 g3 g4 g5 g6 g7 g8 g9
    subst g0 g1 g2 g3 g4 g5 g6 g7 g8 g9
    obtain ⟨a, n, c, l, rfl, hb⟩ := byte_of (v := v10) (by simpa [cb] using e10)
    obtain ⟨m1, rfl, k1⟩ := nat_u32 f1
    obtain ⟨m2, rfl, k2⟩ := nat_u32 f2
    obtain ⟨m4, rfl, k4⟩ := nat_u32 f4
    obtain ⟨m5, rfl, k5⟩ := nat_u32 f5
    obtain ⟨m6, rfl, k6⟩ := nat_u32 f6
    obtain rfl := hb.hlen
    refine ⟨{ kind := n0, sess := m1, seq := m2, path := n3, tick := m4, a := m5, b := m6, k := n7, m := n8, index := n9, data := l }, a, c, rfl, hb, ?_⟩
    exact ⟨int_i64 f0, int_i64 f3, k1, k2, k4, k5, k6⟩
end Go.Proofs.YtgdofgckjkmhjaaGreat
namespace Go.Proofs.YtgdofgckjkmhjaaGreat.Mp
open Go Go.ChangeShapes Go.WideShapes Go.ChangeAt Go.RowKit Go.Deep
/-- A call of the law's script. -/
structure Oq where
  kind : Int
  rank : Int
  d : Dg
  p : Option Addr
  c : Nat
  n : Int
  way : Int
  thn : Nat
instance : Inhabited Oq := ⟨⟨0, 0, Qd.dg0, none, 0, 0, 0, 0⟩⟩
def oqc (y : Oq) : List Value := .int .i64 y.kind :: .int .i64 y.rank :: (dgl y.d y.p y.c ++ [.int .i64 y.n, .int .i64 y.way, .int .u32 y.thn])
/-- A script, as it lies. -/
structure OqR (w : World) (a : Option Addr) (l : List Oq) : Prop where
  at_ : ∀ (i : Nat) y, l[i]? = some y → ∃ g o, a = some ⟨g, o, none⟩ ∧ g < w.heap.size ∧ w.rangeAt g (o + i * 16) (oqc y)
  ok : ∀ y, y ∈ l → Bts w y.p y.d.data.length y.c y.d.data ∧ DgFits y.d ∧ y.thn < 4294967296
theorem OqR.kept {w w' : World} {a : Option Addr} {l : List Oq} (h : OqR w a l) (hk : Kept [] w w') : OqR w' a l :=
  ⟨fun i y hy => by
    obtain ⟨g, o, h1, h2, h3⟩ := h.at_ i y hy
    exact ⟨g, o, h1, Nat.lt_of_lt_of_le h2 hk.size, hk.range h3 (by simp)⟩, fun y hy => ⟨(h.ok y hy).1.kept hk, (h.ok y hy).2⟩⟩
theorem oqs_of {H : Type} {enc : TypeId × Value → H} {w : World} {base : Nat} {held : Bool} {fuel : Nat} {v : Value} {x : DataW H × List MemPlace} (h : DataW.trod enc Tryz.prog w base (fun _ => true) held fuel 24 [v] = some x) :
    ∃ a c xs, v = .slice a xs.length c ∧ OqR w a xs := by
  have c16 : Tryz.prog.cellsOf 58 = 16 := by kernel_rfl
  have ci : Tryz.prog.cellsOf 3 = 1 := by kernel_rfl
  have cu : Tryz.prog.cellsOf 29 = 1 := by kernel_rfl
  have cd : Tryz.prog.cellsOf 50 = 11 := by kernel_rfl
  obtain ⟨a, c, xs, h1, h2, h3⟩ := rows_of (α := Oq) 16 (by omega) c16 Tryz.underlying24 oqc (fun y => Bts w y.p y.d.data.length y.c y.d.data ∧ DgFits y.d ∧ y.thn < 4294967296) (fun _ => rfl) (fun es he => by
    have hlen := he.len Tryz.underlying58
    rw [c16] at hlen
    obtain ⟨n0, e0, _⟩ := (he.field Tryz.underlying58 0 _ rfl).int Tryz.underlying3
    obtain ⟨n1, e1, _⟩ := (he.field Tryz.underlying58 1 _ rfl).int Tryz.underlying3
    obtain ⟨d, p, c, e2, hb, hf⟩ := dg_of (he.field Tryz.underlying58 2 _ rfl)
    obtain ⟨n3, e3, _⟩ := (he.field Tryz.underlying58 3 _ rfl).int Tryz.underlying3
    obtain ⟨n4, e4, _⟩ := (he.field Tryz.underlying58 4 _ rfl).int Tryz.underlying3
    obtain ⟨n5, e5, w5⟩ := (he.field Tryz.underlying58 5 _ rfl).int Tryz.underlying29
    obtain ⟨t, rfl, ht⟩ := nat_u32 w5
    change (es.drop 0).take (Tryz.prog.cellsOf 3) = _ at e0
    change (es.drop 1).take (Tryz.prog.cellsOf 3) = _ at e1
    change (es.drop 2).take (Tryz.prog.cellsOf 50) = _ at e2
    change (es.drop 13).take (Tryz.prog.cellsOf 3) = _ at e3
    change (es.drop 14).take (Tryz.prog.cellsOf 3) = _ at e4
    change (es.drop 15).take (Tryz.prog.cellsOf 29) = _ at e5
    rw [ci] at e0 e1 e3 e4
    rw [cu] at e5
    rw [cd] at e2
    have g0 := at_of e0
    have g1 := at_of e1
    have g3 := at_of e3
    have g4 := at_of e4
    have g5 := at_of e5
    refine ⟨⟨n0, n1, d, p, c, n3, n4, t⟩, ⟨hb, hf, ht⟩, ?_⟩
    match es, hlen with
    | [x0, x1, y0, y1, y2, y3, y4, y5, y6, y7, y8, y9, y10, x3, x4, x5], _ =>
      have e2' : [y0, y1, y2, y3, y4, y5, y6, y7, y8, y9, y10] = dgl d p c := e2
      have f0 : x0 = .int .i64 n0 := by simpa using g0
      have f1 : x1 = .int .i64 n1 := by simpa using g1
      have f3 : x3 = .int .i64 n3 := by simpa using g3
      have f4 : x4 = .int .i64 n4 := by simpa using g4
      have f5 : x5 = .int .u32 (t : Int) := by simpa using g5
      subst f0 f1 f3 f4 f5
      show _ :: _ :: ([y0, y1, y2, y3, y4, y5, y6, y7, y8, y9, y10] ++ [_, _, _]) = _
      rw [e2']
      rfl) h
  refine ⟨a, c, xs, h1, ⟨fun i y hy => ?_, h3⟩⟩
  obtain ⟨g, o, ha, hg, hc⟩ := h2 i y hy
  exact ⟨g, o, ha, hg, fun j u hu => hc j u hu⟩
end Go.Proofs.YtgdofgckjkmhjaaGreat.Mp
namespace Go.Proofs.YtgdofgckjkmhjaaGreat
open Go Go.RowKit
attribute [local go_sem ↓] exec_m5 exec_m6 exec_r5 exec_r69 exec_r78
attribute [local go_sem] goodMid_at midAt_at
theorem BB_of {n : Nat} {p q : Pa} {w3 : World} (h : Blk w3 n (rpc p) 34) (g : Blk w3 (n + 1) (rpc q) 34) :
    (midOf w3 n 0 78 = (rpc p).toArray ∧ hasMid w3 n 0 78 = true ∧ midOf w3 (n + 1) 0 78 = (rpc q).toArray ∧ hasMid w3 (n + 1) 0 78 = true) ∧ (midOf w3 n 0 5 = (stc p.s).toArray ∧ hasMid w3 n 0 5 = true ∧ midOf w3 (n + 1) 0 5 = (stc q.s).toArray ∧ hasMid w3 (n + 1) 0 5 = true) := by
  have a := h.mid (Part.all _)
  have b := h.hasMid (Part.all _)
  have c := g.mid (Part.all _)
  have d := g.hasMid (Part.all _)
  rw [rpc_len] at a b c d
  exact ⟨⟨a, b, c, d⟩, h.mid (rpc_s p), h.hasMid (rpc_s p), g.mid (rpc_s q), g.hasMid (rpc_s q)⟩
set_option maxRecDepth 100000 in
set_option maxHeartbeats 6400000 in
theorem rbetter_any (p q : Pa) (w : World) (k : Int) (hp : StOk p.s k) (hq : StOk q.s k) :
    Calls Tryz.prog 96 #[.agg (rpc p).toArray, .agg (rpc q).toArray] w fun e w' => e = .returned (.bool (decide (keyI p < keyI q))) ∧ Kept [] w w' := by
  have B0 := hx ((Blk.new w (rpc p) 34).alloc (.cells (rpc q).toArray 34))
  have E0 := hx (show Blk ((w.alloc (.cells (rpc p).toArray 34)).alloc (.cells (rpc q).toArray 34)) (w.heap.size + 1) (rpc q) 34 by
    have h := Blk.new (w.alloc (.cells (rpc p).toArray 34)) (rpc q) 34
    rw [show (w.alloc (.cells (rpc p).toArray 34)).heap.size = w.heap.size + 1 by simp] at h
    exact h)
  have K0 := hx (((Kept.refl [] w).alloc (.cells (rpc p).toArray 34)).alloc (.cells (rpc q).toArray 34))
  have HP := hx hp
  have HQ := hx hq
  have HG := hx (fun (w3 w4 : World) (h : ((midOf w3 w.heap.size 0 78 = (rpc p).toArray ∧ hasMid w3 w.heap.size 0 78 = true ∧ midOf w3 (w.heap.size + 1) 0 78 = (rpc q).toArray ∧ hasMid w3 (w.heap.size + 1) 0 78 = true) ∧ (midOf w3 w.heap.size 0 5 = (stc p.s).toArray ∧ hasMid w3 w.heap.size 0 5 = true ∧ midOf w3 (w.heap.size + 1) 0 5 = (stc q.s).toArray ∧ hasMid w3 (w.heap.size + 1) 0 5 = true)) ∧ (Hx (Blk w3 w.heap.size (rpc p) 34) ∧ Hx (Blk w3 (w.heap.size + 1) (rpc q) 34) ∧ Hx (Kept [] w w3))) (hk : Kept [] w3 w4) =>
    And.intro (BB_of (hk.blk h.2.1.out (by simp)) (hk.blk h.2.2.1.out (by simp))) (And.intro (hx (hk.blk h.2.1.out (by simp))) (And.intro (hx (hk.blk h.2.2.1.out (by simp))) (hx (h.2.2.2.out.trans0 hk)))))
  by_cases h : stateI p.quiet = stateI q.quiet
  · have z := hx (key_eq p q h)
    clear hp hq
    go_enter Tryz.func96, Tryz.ntmps96
    go_upto_region 1 with fail
    generalize (w.alloc (.cells (rpc p).toArray 34)).alloc (.cells (rpc q).toArray 34) = W0 at *
    go_region_held3 (fun w3 => ((midOf w3 w.heap.size 0 78 = (rpc p).toArray ∧ hasMid w3 w.heap.size 0 78 = true ∧ midOf w3 (w.heap.size + 1) 0 78 = (rpc q).toArray ∧ hasMid w3 (w.heap.size + 1) 0 78 = true) ∧ (midOf w3 w.heap.size 0 5 = (stc p.s).toArray ∧ hasMid w3 w.heap.size 0 5 = true ∧ midOf w3 (w.heap.size + 1) 0 5 = (stc q.s).toArray ∧ hasMid w3 (w.heap.size + 1) 0 5 = true)) ∧ (Hx (Blk w3 w.heap.size (rpc p) 34) ∧ Hx (Blk w3 (w.heap.size + 1) (rpc q) 34) ∧ Hx (Kept [] w w3)))
      (first | exact hSS | exact ⟨BB_of B0.out.drew E0.out.drew, ⟨B0.out.drew⟩, ⟨E0.out.drew⟩, ⟨K0.out.drew⟩⟩ | assumption)
      (first
       | (go_at_call 53; refine (rstate_any _ _).mono ?_; rintro e w' ⟨rfl, hk⟩; have hSS := HG.out _ _ ‹_› hk))
    all_goals
      go_upto_region 3 with fail
      go_region_held3 (fun w3 => ((midOf w3 w.heap.size 0 78 = (rpc p).toArray ∧ hasMid w3 w.heap.size 0 78 = true ∧ midOf w3 (w.heap.size + 1) 0 78 = (rpc q).toArray ∧ hasMid w3 (w.heap.size + 1) 0 78 = true) ∧ (midOf w3 w.heap.size 0 5 = (stc p.s).toArray ∧ hasMid w3 w.heap.size 0 5 = true ∧ midOf w3 (w.heap.size + 1) 0 5 = (stc q.s).toArray ∧ hasMid w3 (w.heap.size + 1) 0 5 = true)) ∧ (Hx (Blk w3 w.heap.size (rpc p) 34) ∧ Hx (Blk w3 (w.heap.size + 1) (rpc q) 34) ∧ Hx (Kept [] w w3)))
      (first | exact hSS | exact ⟨BB_of hSS.2.1.out.drew hSS.2.2.1.out.drew, ⟨hSS.2.1.out.drew⟩, ⟨hSS.2.2.1.out.drew⟩, ⟨hSS.2.2.2.out.drew⟩⟩ | assumption)
      (first
       | (go_at_call 106; refine (rscore_any _ _ k (by first | exact HP.out | exact HQ.out)).mono ?_; rintro e w' ⟨rfl, hk⟩; have hSS := HG.out _ _ ‹_› hk))
    all_goals
      go_wp2
      go_ret
      exact ⟨by rw [← z.out]; rfl, hSS.2.2.2.out⟩
  · have z := hx (key_ne p q k hp hq h)
    have hne : (stateI p.quiet != stateI q.quiet) = true := by simp [bne, h]
    clear hp hq h
    go_enter Tryz.func96, Tryz.ntmps96
    go_upto_region 1 with fail
    generalize (w.alloc (.cells (rpc p).toArray 34)).alloc (.cells (rpc q).toArray 34) = W0 at *
    go_region_held3 (fun w3 => ((midOf w3 w.heap.size 0 78 = (rpc p).toArray ∧ hasMid w3 w.heap.size 0 78 = true ∧ midOf w3 (w.heap.size + 1) 0 78 = (rpc q).toArray ∧ hasMid w3 (w.heap.size + 1) 0 78 = true) ∧ (midOf w3 w.heap.size 0 5 = (stc p.s).toArray ∧ hasMid w3 w.heap.size 0 5 = true ∧ midOf w3 (w.heap.size + 1) 0 5 = (stc q.s).toArray ∧ hasMid w3 (w.heap.size + 1) 0 5 = true)) ∧ (Hx (Blk w3 w.heap.size (rpc p) 34) ∧ Hx (Blk w3 (w.heap.size + 1) (rpc q) 34) ∧ Hx (Kept [] w w3)))
      (first | exact hSS | exact ⟨BB_of B0.out.drew E0.out.drew, ⟨B0.out.drew⟩, ⟨E0.out.drew⟩, ⟨K0.out.drew⟩⟩ | assumption)
      (first
       | (go_at_call 53; refine (rstate_any _ _).mono ?_; rintro e w' ⟨rfl, hk⟩; have hSS := HG.out _ _ ‹_› hk))
    all_goals
      go_upto_region 2 with fail
      go_region_held3 (fun w3 => ((midOf w3 w.heap.size 0 78 = (rpc p).toArray ∧ hasMid w3 w.heap.size 0 78 = true ∧ midOf w3 (w.heap.size + 1) 0 78 = (rpc q).toArray ∧ hasMid w3 (w.heap.size + 1) 0 78 = true) ∧ (midOf w3 w.heap.size 0 5 = (stc p.s).toArray ∧ hasMid w3 w.heap.size 0 5 = true ∧ midOf w3 (w.heap.size + 1) 0 5 = (stc q.s).toArray ∧ hasMid w3 (w.heap.size + 1) 0 5 = true)) ∧ (Hx (Blk w3 w.heap.size (rpc p) 34) ∧ Hx (Blk w3 (w.heap.size + 1) (rpc q) 34) ∧ Hx (Kept [] w w3)))
      (first | exact hSS | exact ⟨BB_of hSS.2.1.out.drew hSS.2.2.1.out.drew, ⟨hSS.2.1.out.drew⟩, ⟨hSS.2.2.1.out.drew⟩, ⟨hSS.2.2.2.out.drew⟩⟩ | assumption)
      (first
       | (go_at_call 53; refine (rstate_any _ _).mono ?_; rintro e w' ⟨rfl, hk⟩; have hSS := HG.out _ _ ‹_› hk))
    all_goals
      go_wp2
      go_ret
      exact ⟨by rw [← z.out]; rfl, hSS.2.2.2.out⟩
end Go.Proofs.YtgdofgckjkmhjaaGreat
namespace Go.Proofs.YtgdofgckjkmhjaaGreat
open Go Go.RowKit
attribute [local go_sem ↓] exec_m5 exec_m6 exec_r5 exec_r69 exec_r78
attribute [local go_sem] goodMid_at midAt_at
/-- A list of the reference's ways. -/
def Rws (w : World) (a : Option Addr) (n : Nat) (ps : List Pa) : Prop := ∀ i, i < n → ∃ g xs T, a = some ⟨g, 0, none⟩ ∧ Blk w g xs T ∧ Part xs (i * 78) (rpc (ps.getD i pa0))
theorem Rws.kept {w w2 : World} {a : Option Addr} {n : Nat} {ps : List Pa} (h : Rws w a n ps) (hk : Kept [] w w2) : Rws w2 a n ps := fun i hi => by
  obtain ⟨g, xs, T, h1, h2, h3⟩ := h i hi
  exact ⟨g, xs, T, h1, hk.blk h2 (by simp), h3⟩
def usd (n : Nat) (out : List Nat) : List Value := tab n fun i => .bool (decide (i ∈ out))
theorem usd_nil (n : Nat) : usd n [] = List.replicate n (.bool false) := by
  apply List.ext_getElem?
  intro i
  unfold usd
  by_cases h : i < n
  · rw [tab_get h]; simp [h]
  · rw [tab_out (by omega)]; simp [h]
theorem usd_set (n : Nat) (out : List Nat) (c : Nat) (hc : c < n) : (usd n out).set c (.bool true) = usd n (out ++ [c]) := by
  unfold usd
  exact tab_set hc (by simp) (fun i hi hne => by simp [hne])
theorem mid78 {w : World} {g : Nat} {xs : List Value} {T : TypeId} {o : Nat} {p : Pa} (h : Blk w g xs T) (hp : Part xs o (rpc p)) : midOf w g o 78 = (rpc p).toArray ∧ hasMid w g o 78 = true := by
  have a := h.mid hp
  have b := h.hasMid hp
  rw [rpc_len] at a b
  exact ⟨a, b⟩
theorem infoBool : (Tryz.prog.info? 4).map (fun i => (i.zero, i.size, i.bytes)) = some (some (.bool false), 1, 1) := by kernel_rfl
theorem makeB (n : Nat) (h : n ≤ 8) (w : World) : (Instr.makeSlice 159 (.int .i64 (n : Int)) (.int .i64 (n : Int))).run Tryz.prog w = .ok (.slice (some ⟨w.heap.size, 0, none⟩) n n) (w.alloc (.cells (madeCells #[.bool false] n) 4)) := by
  obtain ⟨i0, hi, hz0, hz1, hz2⟩ := info_parts infoBool
  have hr := run_make (P := Tryz.prog) w 159 4 i0 (.bool false) Tryz.underlying159 hi hz0 .i64 .i64 n n (by omega) (by omega) (by rw [hz2]; omega) (by omega)
  rw [hz1] at hr
  simp only [Int.toNat_natCast, Nat.mul_one] at hr
  exact hr
theorem blk_news {w : World} {g : Nat} {xs : List Value} {T : TypeId} (h : Blk w g xs T) : ∀ ad, some (⟨g, 0, none⟩ : Addr) = some ad → ∀ j u, xs[j]? = some u → w.cell? (ad.add j) = some u := by
  intro ad ha j u hu
  simp only [Option.some.injEq] at ha
  subst ha
  rw [Addr.add_mid]
  simp only [Nat.zero_add]
  exact h.cell hu
theorem grown_blk {w w2 : World} {row : Option Nat} {b : Nat} {xs : List Value} {T : TypeId} (hg : w.grownBy w2 row) (h : Blk w b xs T) (hn : some b ≠ row) : Blk w2 b xs T := by
  have hlt := h.lt
  unfold Blk at *
  rw [hg.block b hlt hn]
  exact h
theorem Kept.toGrown {g : Nat} {w w' : World} (h : Kept [g] w w') : w.grownBy w' (some g) := ⟨h.os, h.tape, h.output, h.size, fun k hk hn => h.block k hk (fun hc => by simp at hc; exact hn (by rw [hc]))⟩
theorem usd_get (n : Nat) (out : List Nat) (i : Nat) (hi : i < n) : (usd n out)[i]? = some (.bool (decide (i ∈ out))) := tab_get hi
theorem ints_push (l : List Nat) (c : Nat) : ints (l ++ [c]) = ints l ++ [.int .i64 (c : Int)] := by simp [ints]
set_option maxRecDepth 100000 in
set_option maxHeartbeats 12000000 in
theorem rorder_any (a : Option Addr) (n cap : Nat) (ps : List Pa) (w : World) (hP : Rws w a n ps) (hO : ∀ i, i < n → StOk (ps.getD i pa0).s 1000000) (hn : n ≤ 8) :
    Calls Tryz.prog 82 #[.slice a n cap] w fun e w' => ∃ u l, e = .returned u ∧ Srt (keyF ps) n l ∧ w'.ownsRow w.heap.size 3 1 u n (ints l) ∧ Kept [] w w' := by
  have HP := hx hP
  have HO := hx hO
  have hmk := makeB n hn w
  have HM0 := hx (show Blk (w.alloc (.cells (madeCells #[.bool false] n) 4)) w.heap.size (usd n []) 4 by
    have h := Blk.new' w (madeCells #[.bool false] n) 4
    rw [toList_madeCells_one, ← usd_nil] at h
    exact h)
  have HK0 := hx ((Kept.refl [] w).alloc (.cells (madeCells #[.bool false] n) 4))
  clear hP hO
  go_enter Tryz.func82, Tryz.ntmps82
  go_wp2
  clear hmk
  generalize w.alloc (.cells (madeCells #[.bool false] n) 4) = W0 at *
  obtain ⟨m, hm⟩ : ∃ m, m = w.heap.size := ⟨_, rfl⟩
  have HMW := hx hm
  rw [← hm] at HM0
  rw [← hm]
  clear hm
  go_loopw [5, 3] (fun iv ov wr => ∃ (k : Nat) (out : List Nat) (u : Value), k ≤ n ∧ iv = .int .i64 k ∧ u = ov ∧ out.length = k ∧ Sel (keyF ps) n out ∧ wr.ownsRow (m + 1) 3 1 u k (ints out) ∧ Blk wr m (usd n out) 4 ∧ Kept [] w wr) (fun iv _ _ => n - (intOf iv).toNat)
  case atStart => exact ⟨0, [], _, by omega, rfl, rfl, rfl, Sel.nil _ _, World.ownsRow_nil _ _ _ _, HM0.out, HK0.out⟩
  case round =>
    clear HM0 HK0
    obtain ⟨k, out, u, hk, rfl, rfl, hlen, hs, ho, hm, hkr⟩ := hrel
    have HS := hx hs
    have HU := hx ho
    have HM := hx hm
    have HK := hx hkr
    have HL := hx hlen
    clear hs ho hm hkr hlen
    by_cases hlt : k < n
    · have hkn : (k : Int) < (n : Int) := by omega
      go_wp2
      go_loopw [6, 7] (fun bv iv w5 => ∃ (i : Nat) (b : Int), i ≤ n ∧ iv = .int .i64 i ∧ bv = .int .i64 b ∧ Bst (keyF ps) out i b ∧ Kept [] wr w5) (fun _ iv _ => n - (intOf iv).toNat)
      case atStart => exact ⟨0, -1, by omega, rfl, rfl, Bst.zero _ _, Kept.refl _ _⟩
      case round =>
        obtain ⟨i, b, hi, rfl, rfl, hb, hk5⟩ := hrel
        have HB := hx hb
        have HK5 := hx hk5
        have HM5 := hx (hk5.blk HM.out (by simp))
        clear hb hk5
        by_cases hin : i < n
        · have hii : (i : Int) < (n : Int) := by omega
          have cu := HM5.out.cell (usd_get n out i hin)
          by_cases hmem : i ∈ out
          · have HB2 := hx (HB.out.used hmem)
            rw [show decide (i ∈ out) = true by simpa using hmem] at cu
            clear hmem
            go_wp2_with fail
            go_quiet (fail)
            have HK6 := hx (HK5.out.trans0 ((Kept.refl [] wr).drewN nq))
            go_wp2
            go_roundw
            case rel => exact ⟨i + 1, b, by omega, by go_num, rfl, HB2.out, HK6.out⟩
            case measure => simp [intOf] <;> omega
          · have HMEM := hx hmem
            rw [show decide (i ∈ out) = false by simpa using hmem] at cu
            clear hmem
            rcases (show b = -1 ∨ ∃ c : Nat, b = c by
              rcases HB.out with ⟨h, _⟩ | ⟨c, h, _⟩
              · exact .inl h
              · exact .inr ⟨c, h⟩) with rfl | ⟨c, rfl⟩
            · have HB2 := hx (HB.out.first HMEM.out)
              go_wp2_with fail
              go_quiet (fail)
              have HK6 := hx (HK5.out.trans0 ((Kept.refl [] wr).drewN nq))
              go_wp2
              go_roundw
              case rel => exact ⟨i + 1, i, by omega, by go_num, rfl, HB2.out, HK6.out⟩
              case measure => simp [intOf] <;> omega
            · have hci := (HB.out.lt).1
              have hcn : (c : Int) < (n : Int) := by omega
              obtain ⟨ga, xs, T1, rfl, hbl, hpi⟩ := (HP.out.kept (HK.out.trans0 HK5.out)) i hin
              obtain ⟨gb, ys, T2, hgb, hbl2, hpc⟩ := (HP.out.kept (HK.out.trans0 HK5.out)) c (by omega)
              simp only [Option.some.injEq, Addr.mk.injEq, and_true] at hgb
              obtain rfl := hgb
              have HBT := hx (fun (w : World) => show Calls Tryz.prog 96 #[.agg (rpc (ps.getD i pa0)).toArray, .agg (rpc (ps.getD c pa0)).toArray] w fun e w' => e = .returned (.bool (decide (keyF ps i < keyF ps c))) ∧ Kept [] w w' from rbetter_any (ps.getD i pa0) (ps.getD c pa0) w 1000000 (HO.out i hin) (HO.out c (by omega)))
              have HG := hx (fun (w3 : World) (hk : Kept [] wr w3) => show ((w3.cell? ⟨m, i, none⟩ = some (.bool false) ∧ midOf w3 ga (i * 78) 78 = (rpc (ps.getD i pa0)).toArray ∧ hasMid w3 ga (i * 78) 78 = true) ∧ (midOf w3 ga (c * 78) 78 = (rpc (ps.getD c pa0)).toArray ∧ hasMid w3 ga (c * 78) 78 = true)) ∧ (Hx (Kept [] wr w3)) from
                And.intro (And.intro (And.intro (kept_cell' hk cu) (mid78 (hk.blk hbl (by simp)) hpi)) (mid78 (hk.blk hbl2 (by simp)) hpc)) (hx hk))
              generalize ps.getD i pa0 = pi at *
              generalize ps.getD c pa0 = pc at *
              clear hbl hpi hbl2 hpc cu
              cases hD : decide (keyF ps i < keyF ps c)
              · have HB2 := hx (HB.out.worse (by have h := of_decide_eq_false hD; omega))
                rw [hD] at HBT
                have HQ := hx (fun (w3 : World) (h : ((w3.cell? ⟨m, i, none⟩ = some (.bool false) ∧ midOf w3 ga (i * 78) 78 = (rpc pi).toArray ∧ hasMid w3 ga (i * 78) 78 = true) ∧ (midOf w3 ga (c * 78) 78 = (rpc pc).toArray ∧ hasMid w3 ga (c * 78) 78 = true)) ∧ (Hx (Kept [] wr w3))) => h.2.out)
                clear hD
                go_wp2_with fail
                go_region_held3 (fun w3 => ((w3.cell? ⟨m, i, none⟩ = some (.bool false) ∧ midOf w3 ga (i * 78) 78 = (rpc pi).toArray ∧ hasMid w3 ga (i * 78) 78 = true) ∧ (midOf w3 ga (c * 78) 78 = (rpc pc).toArray ∧ hasMid w3 ga (c * 78) 78 = true)) ∧ (Hx (Kept [] wr w3)))
                  (first | exact hSS | exact HG.out _ (Kept.refl _ _).drew | assumption)
                  (first | (go_at_call 96; refine (HBT.out _).mono ?_; rintro e w' ⟨rfl, hk⟩; have hSS := HG.out _ ((HQ.out _ ‹_›).trans0 hk)))
                have HK7 := hx (HK5.out.trans0 hSS.2.out)
                clear hSS HG HQ HBT
                go_wp2
                go_roundw
                case rel => exact ⟨i + 1, c, by omega, by go_num, rfl, HB2.out, HK7.out⟩
                case measure => simp [intOf] <;> omega
              · have HB2 := hx (HB.out.better HMEM.out (of_decide_eq_true hD))
                rw [hD] at HBT
                have HQ := hx (fun (w3 : World) (h : ((w3.cell? ⟨m, i, none⟩ = some (.bool false) ∧ midOf w3 ga (i * 78) 78 = (rpc pi).toArray ∧ hasMid w3 ga (i * 78) 78 = true) ∧ (midOf w3 ga (c * 78) 78 = (rpc pc).toArray ∧ hasMid w3 ga (c * 78) 78 = true)) ∧ (Hx (Kept [] wr w3))) => h.2.out)
                clear hD
                go_wp2_with fail
                go_region_held3 (fun w3 => ((w3.cell? ⟨m, i, none⟩ = some (.bool false) ∧ midOf w3 ga (i * 78) 78 = (rpc pi).toArray ∧ hasMid w3 ga (i * 78) 78 = true) ∧ (midOf w3 ga (c * 78) 78 = (rpc pc).toArray ∧ hasMid w3 ga (c * 78) 78 = true)) ∧ (Hx (Kept [] wr w3)))
                  (first | exact hSS | exact HG.out _ (Kept.refl _ _).drew | assumption)
                  (first | (go_at_call 96; refine (HBT.out _).mono ?_; rintro e w' ⟨rfl, hk⟩; have hSS := HG.out _ ((HQ.out _ ‹_›).trans0 hk)))
                have HK7 := hx (HK5.out.trans0 hSS.2.out)
                clear hSS HG HQ HBT
                go_wp2
                go_roundw
                case rel => exact ⟨i + 1, i, by omega, by go_num, rfl, HB2.out, HK7.out⟩
                case measure => simp [intOf] <;> omega
        · obtain rfl : i = n := by omega
          obtain ⟨c, rfl⟩ : ∃ c : Nat, b = c := by
            rcases HB.out with ⟨h, h2⟩ | ⟨c, h, _⟩
            · exact absurd (Sel.there (by have := HL.out; omega) h2) id
            · exact ⟨c, h⟩
          have hci := (HB.out.lt).1
          have hcn : (c : Int) < (i : Int) := by omega
          have HSA := hx (HS.out.add HB.out)
          have cm := HM5.out.cell (usd_get i out c hci)
          have hf := HM5.out.free
          have HU5 := hx (own_kept HU.out HK5.out)
          have HKA := hx (HK.out.trans0 HK5.out)
          have HM6 := hx (show Blk (wr.setCell ⟨m, c, none⟩ (.bool true)) m (usd i (out ++ [c])) 4 by
            have h := HM5.out.set c (.bool true)
            rw [usd_set i out c hci] at h
            exact h)
          have HK6 := hx (HKA.out.setCell (p := ⟨m, c, none⟩) (.inr (by rw [HMW.out]; exact Nat.le_refl _)) (.bool true))
          have HU6 := hx (World.ownsRow.kept HU5.out (Kept.toGrown ((Kept.refl [m] wr).setCell (p := ⟨m, c, none⟩) (.inl (by simp)) (.bool true))) (by
            rcases hv : u.ownBlock with _ | q
            · exact .inl rfl
            · refine .inr ?_
              have h := (HU.out.lt q hv).1
              intro e
              simp only [Option.some.injEq] at e
              omega))
          have HMlt := hx (show m < (wr.setCell ⟨m, c, none⟩ (.bool true)).heap.size from HM6.out.lt)
          clear HB HM5 HU5 HKA
          go_upto_region 13 with fail
          clear cm hf
          generalize wr.setCell ⟨m, c, none⟩ (.bool true) = W2 at *
          have HN := hx (Blk.new W2 [.int .i64 (c : Int)] 3)
          have HU7 := hx (HU6.out.alloc (.cells #[.int .i64 (c : Int)] 3))
          have HK7 := hx (HK6.out.alloc (.cells #[.int .i64 (c : Int)] 3))
          have HM7 := hx (HM6.out.alloc (.cells #[.int .i64 (c : Int)] 3))
          have HUB := hx (fun q hq => (HU7.out.lt q hq).1)
          have HMl7 := hx (show m < (W2.alloc (.cells #[.int .i64 (c : Int)] 3)).heap.size from HM7.out.lt)
          clear HU HU6 HK6 HM6 HK HK5
          go_wp2_with (first
            | (at_builtin; refine wpList_app rfl (.tmp 47) (.tmp 49) 81 rfl (m + 1) 3 (.int .i64 0) 1 8 infoInt Tryz.underlying81 rfl (by omega) u k (ints out) rfl HU7.out (some ⟨W2.heap.size, 0, none⟩) 1 1 [.int .i64 (c : Int)] rfl rfl (by simp) (by omega) (blk_news HN.out) (one_int c) (by unfold maxLen; omega) (by omega) HMl7.out ?_; intro v5 w5 ho5 hg5; have HO8 := hx ho5; have HK8 := hx (HK7.out.grown hg5 (fun q hq => .inr (by have h := HUB.out q hq; rw [HMW.out] at h; omega))); have HM8 := hx (grown_blk hg5 HM7.out (fun e => by have h := HUB.out m e.symm; omega)); clear ho5 hg5 HU7 HK7 HM7 HN))
          go_wp2
          go_roundw
          case rel => exact ⟨k + 1, out ++ [c], v5, by omega, by go_num, rfl, by rw [List.length_append, HL.out]; rfl, HSA.out, by rw [ints_push]; exact HO8.out, HM8.out, HK8.out⟩
          case measure => simp [intOf] <;> omega
    · obtain rfl : k = n := by omega
      have HR := hx (HS.out.full (by have := HL.out; omega))
      go_wp2
      go_ret
      exact ⟨_, out, rfl, HR.out, HU.out.mono (by rw [HMW.out]; omega), HK.out⟩
end Go.Proofs.YtgdofgckjkmhjaaGreat
