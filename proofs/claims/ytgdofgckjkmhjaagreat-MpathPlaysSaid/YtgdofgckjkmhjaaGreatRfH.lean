/- The document's sender: Trip. -/
import Derived.Test.YtgdofgckjkmhjaaGreatPk12
set_option linter.unusedSimpArgs false
set_option linter.unusedVariables false
namespace Go.Proofs.YtgdofgckjkmhjaaGreat.Mp
open Go Go.RowKit
open Qd (dvl dv0 dvl_one infoDg step_of)
def ago (now th : Nat) : Nat := (now + 4294967296 - th) % 4294967296
theorem ago_wrap (now th : Nat) (h1 : now < 4294967296) (h2 : th < 4294967296) : ((now : Int) - (th : Int)) % 4294967296 = ((ago now th : Nat) : Int) := by
  unfold ago
  omega
def tripW (m : Ms) (i b : Nat) : Ms := m.setW i { m.way i with s := tripS (m.way i).s b }
theorem rpc_s2 {xs : List Value} {o : Nat} {p : Pa} (h : Part xs o (rpc p)) : Part xs o (stc p.s) :=
  Part.sub (ys := []) (bs := stc p.s) (cs := rsc p.seen ++ tl4 p) (by simpa [rpc] using h)
theorem rpc_set_s2 {xs : List Value} {o : Nat} {p : Pa} (h : Part xs o (rpc p)) (s : St) : setAll xs o (stc s) = setAll xs o (rpc { p with s := s }) := by
  have e := setAll_sub (ys := []) (bs := stc p.s) (bs' := stc s) (cs := rsc p.seen ++ tl4 p) (o := o) (xs := xs) (by simpa [rpc] using h) rfl
  refine Eq.trans (by simpa using e) ?_
  simp only [rpc, List.append_assoc]
  rfl
theorem infoRst : (Tryz.prog.info? 28).map (·.size) = some 5 := by kernel_rfl
set_option linter.unusedSimpArgs false in
set_option maxRecDepth 100000 in
set_option maxHeartbeats 6400000 in
theorem rtrip_yes (m : Ms) (a : Option Addr) (c i th : Nat) (w : World) (hi : i < 2) (hs : StOk (m.way i).s 1000000) (hn : m.now < 4294967296) (ht : th < 4294967296) (hb : ago m.now th ≤ 2000) :
    Calls Tryz.prog 39 #[.agg (rsd m a c).toArray, .int .i64 (i : Int), .int .u32 (th : Int)] w fun e w' => e = .returned (.agg (rsd (tripW m i (ago m.now th)) a c).toArray) ∧ Kept [] w w' := by
  obtain ⟨Z, hZ, hz⟩ := zeroRS'
  have S0 := hx (rs_start m a c w Z hZ)
  obtain ⟨b, hbe⟩ : ∃ b, ago m.now th = b := ⟨_, rfl⟩
  have hw := ago_wrap m.now th hn ht
  rw [hbe] at hw hb
  rw [hbe]
  have HTR := hx (fun W => show Calls Tryz.prog 68 #[.agg (stc (m.way i).s).toArray, .int .i64 (b : Int)] W (fun e w' => e = .returned (.agg (stc (tripS (m.way i).s b)).toArray) ∧ Kept [] W w') from rtrip_any (m.way i).s b W hs)
  have HI := hx hi
  have d0 : decide ((i : Int) < 0) = false := decide_eq_false (by omega)
  have d1 : decide ((1 : Int) < (i : Int)) = false := decide_eq_false (by omega)
  have d2 : decide ((2000 : Int) < (b : Int)) = false := decide_eq_false (by omega)
  have hii : (i : Int) < 2 := by omega
  have hbb : (b : Int) ≤ 2000 := by omega
  clear hZ hbe hs hi hb
  go_enter Tryz.func39, Tryz.ntmps39
  go_upto_region 1 with fail
  clear hz
  generalize (w.alloc (.cells (rsd m a c).toArray 40)).alloc (.cells Z 40) = W0 at *
  have cn := S0.out.1.cell (i := 164) (v := .int .u32 m.now) (rsd_at m a c 8)
  go_upto_region 4 with fail
  clear cn
  go_wp2_with (first
    | (refine load_part rfl 28 (.tmp 27) rfl w.heap.size (i * 78) rfl 40 _ (stc (m.way i).s) _ S0.out.1 (rpc_s2 (rsd_way m a c HI.out)) Tryz.underlying28 rfl infoRst ?_)
    | (go_at_call 68; refine (HTR.out _).mono ?_; rintro e w1 ⟨rfl, hk1⟩; have K1 := hx hk1; have B1 := hx (hk1.blk S0.out.1 (by simp)); have R1 := hx (hk1.blk S0.out.2.1 (by simp)); clear hk1)
    | (refine store_part rfl 28 (.tmp 34) (.tmp 31) rfl w.heap.size (i * 78) rfl 40 _ (stc (tripS (m.way i).s b)) rfl B1.out (by rw [rsd_len]; show i * 78 + 5 ≤ 167; have := HI.out; omega) infoRst (stc_one _) ?_; intro w2 hb2 hk2; rw [rpc_set_s2 (rsd_way m a c HI.out), rsd_setW m a c HI.out] at hb2; have B2 := hx (show Blk w2 w.heap.size (rsd (tripW m i b) a c) 40 from hb2); have R2 := hx (hk2.blk R1.out (by simp)); have K2 := hx ((S0.out.2.2.trans0 K1.out).trans hk2 (ds := []) (fun _ h => h) (fun g hg => by simp at hg; subst hg; exact .inr (Nat.le_refl _))); clear hb2 hk2)
    | (refine load_blk rfl 40 (.tmp 3) rfl w.heap.size rfl 40 _ _ B2.out Tryz.underlying40 rfl (infoRs2 _ _ _) ?_)
    | (refine store_blk rfl 40 (.tmp 6) (.tmp 35) rfl (w.heap.size + 1) rfl 40 _ (rsd (tripW m i b) a c) rfl R2.out (by rw [rsd_len, rsd_len]) (infoRs2 _ _ _) (rsd_one _ _ _) ?_; intro w8 hb8 hk8))
  exact bodyPost_ret (ret_blk rfl _ (w.heap.size + 1) _ _ _ rfl hb8 Tryz.underlying40 rfl (infoRs2 _ _ _)) rfl ⟨rfl, Kept.behind K2.out hk8 (by omega)⟩
set_option linter.unusedSimpArgs false in
set_option maxRecDepth 100000 in
set_option maxHeartbeats 6400000 in
theorem rtrip_no (m : Ms) (a : Option Addr) (c th : Nat) (i : Int) (w : World) (hn : m.now < 4294967296) (ht : th < 4294967296) (hno : i < 0 ∨ 1 < i ∨ 2000 < ago m.now th) :
    Calls Tryz.prog 39 #[.agg (rsd m a c).toArray, .int .i64 i, .int .u32 (th : Int)] w fun e w' => e = .returned (.agg (rsd m a c).toArray) ∧ Kept [] w w' := by
  obtain ⟨Z, hZ, hz⟩ := zeroRS'
  have S0 := hx (rs_start m a c w Z hZ)
  obtain ⟨b, hbe⟩ : ∃ b, ago m.now th = b := ⟨_, rfl⟩
  have hw := ago_wrap m.now th hn ht
  rw [hbe] at hw hno
  have HNO := hx hno
  clear hZ hbe hno
  go_enter Tryz.func39, Tryz.ntmps39
  go_upto_region 1 with fail
  clear hz
  generalize (w.alloc (.cells (rsd m a c).toArray 40)).alloc (.cells Z 40) = W0 at *
  have cn := S0.out.1.cell (i := 164) (v := .int .u32 m.now) (rsd_at m a c 8)
  by_cases h0 : i < 0
  · have d0 : decide (i < 0) = true := decide_eq_true h0
    go_wp2_with (first
      | (refine load_blk rfl 40 (.tmp 3) rfl w.heap.size rfl 40 _ _ S0.out.1 Tryz.underlying40 rfl (infoRs2 _ _ _) ?_)
      | (refine store_blk rfl 40 (.tmp 6) (.tmp 22) rfl (w.heap.size + 1) rfl 40 _ (rsd m a c) rfl S0.out.2.1 (by rw [rsd_len, rsd_len]) (infoRs2 _ _ _) (rsd_one _ _ _) ?_; intro w8 hb8 hk8))
    exact bodyPost_ret (ret_blk rfl _ (w.heap.size + 1) _ _ _ rfl hb8 Tryz.underlying40 rfl (infoRs2 _ _ _)) rfl ⟨rfl, Kept.behind S0.out.2.2 hk8 (by omega)⟩
  · have d0 : decide (i < 0) = false := decide_eq_false h0
    by_cases h1 : 1 < i
    · have d1 : decide (1 < i) = true := decide_eq_true h1
      go_wp2_with (first
        | (refine load_blk rfl 40 (.tmp 3) rfl w.heap.size rfl 40 _ _ S0.out.1 Tryz.underlying40 rfl (infoRs2 _ _ _) ?_)
        | (refine store_blk rfl 40 (.tmp 6) (.tmp 22) rfl (w.heap.size + 1) rfl 40 _ (rsd m a c) rfl S0.out.2.1 (by rw [rsd_len, rsd_len]) (infoRs2 _ _ _) (rsd_one _ _ _) ?_; intro w8 hb8 hk8))
      exact bodyPost_ret (ret_blk rfl _ (w.heap.size + 1) _ _ _ rfl hb8 Tryz.underlying40 rfl (infoRs2 _ _ _)) rfl ⟨rfl, Kept.behind S0.out.2.2 hk8 (by omega)⟩
    · have d1 : decide (1 < i) = false := decide_eq_false h1
      have d2 : decide ((2000 : Int) < (b : Int)) = true := decide_eq_true (by have := HNO.out; omega)
      have d3 : decide (2000 < b) = true := decide_eq_true (by have := HNO.out; omega)
      go_wp2_with (first
        | (refine load_blk rfl 40 (.tmp 3) rfl w.heap.size rfl 40 _ _ S0.out.1 Tryz.underlying40 rfl (infoRs2 _ _ _) ?_)
        | (refine store_blk rfl 40 (.tmp 6) (.tmp 22) rfl (w.heap.size + 1) rfl 40 _ (rsd m a c) rfl S0.out.2.1 (by rw [rsd_len, rsd_len]) (infoRs2 _ _ _) (rsd_one _ _ _) ?_; intro w8 hb8 hk8))
      exact bodyPost_ret (ret_blk rfl _ (w.heap.size + 1) _ _ _ rfl hb8 Tryz.underlying40 rfl (infoRs2 _ _ _)) rfl ⟨rfl, Kept.behind S0.out.2.2 hk8 (by omega)⟩
end Go.Proofs.YtgdofgckjkmhjaaGreat.Mp
