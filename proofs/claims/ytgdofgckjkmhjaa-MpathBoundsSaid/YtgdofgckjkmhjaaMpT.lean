/- The sender's stamp. Printed by k/gen_mpt.py. -/
import Derived.Test.YtgdofgckjkmhjaaMpO
namespace Go.Proofs.Ytgdofgckjkmhjaa.Mp
open Go Go.RowKit
open Qd (dvl dv0 take_by dvl_one infoDg step_of)
abbrev snt (i : Int) (x : Qd.Dv) : List Value := .int .i64 i :: dvl x
theorem infoSn : (Try.prog.info? 38).map (·.size) = some 12 := by kernel_rfl
theorem snt_one (i : Int) (x : Qd.Dv) : ∀ u ∈ snt i x, u.oneCell' = true := by
  intro u hu
  simp only [snt, List.mem_cons] at hu
  rcases hu with rfl | hu
  · rfl
  · exact dvl_one x u (by simpa using hu)
theorem builtSn (i : Int) (x : Qd.Dv) : Try.prog.built 38 [(0, .int .i64 i), (1, .agg (dvl x).toArray)] = some (snt i x).toArray := by kernel_rfl
theorem wpList_built {P : Program} {w : World} {ops : Array Oper} {rest : List Oper} {o : Oper} {a : Act} {Q : Exit → Act → World → Prop} (hgd : o.guard = none) (t : TypeId) (parts : Array (Nat × Operand)) (ho : o.op = .build t parts) (cells : Array Value) (l : List (Nat × Value)) (hl : (parts.map fun (i, x) => (i, a.eval x)).toList = l)
    (hf : P.built t l = some cells) (h : wpList P ops Q rest (a.put o.dst (.agg cells)) w) : wpList P ops Q (o :: rest) a w := by
  subst hl
  refine wpList_plain hgd fun K hK => wp_build t parts ho (by rw [hf]; rfl) ?_
  rw [hf]
  exact hK _ _ h
theorem nowC (m : Ms) (b q : Nat) : (sdc m b q)[33]? = some (.int .u32 m.now) := rfl
theorem setW_now (m : Ms) (i : Nat) (p : Pa) : (m.setW i p).now = m.now := by unfold Ms.setW; split <;> rfl
theorem nowW (m : Ms) (i : Nat) (p : Pa) (b q : Nat) : (sdc (m.setW i p) b q)[33]? = some (.int .u32 m.now) := by
  have h := nowC (m.setW i p) b q
  rw [setW_now] at h
  exact h
/-- A datagram, as it goes by a way. -/
def stD (m : Ms) (i : Nat) (d : Qd.Dv) : Qd.Dv := { d with d := { d.d with path := (i : Int), tick := m.now, seq := (m.way i).next } }
/-- The sender then. -/
def stM (m : Ms) (i : Nat) : Ms := m.setW i { m.way i with next := nextU (m.way i).next }
theorem Sr.but {w w' : World} {s b q : Nat} {v : Value} {m : Ms} {bs : List Nat} (r : Sr w s b q v m) (hk : Kept bs w w') (h : ∀ g, g ∈ bs → g ∉ own s b q v) (hd : ∀ x, x ∈ m.s → ∀ g o, x.v.p = some (⟨g, o, none⟩ : Addr) → x.v.d.data ≠ [] → g ∉ bs) : Sr w' s b q v m := by
  obtain ⟨hh, hq, hr⟩ := r.hq
  have n : ∀ g, g ∈ own s b q v → g ∉ bs := fun g h1 h2 => h g h2 h1
  exact ⟨hk.blk r.hs (n _ (by simp [own])), hk.blk r.hb (n _ (by simp [own])), ⟨hh, qs_kept hq hk (n _ (by simp [own])) (fun g hg => n g (by simp [own, hg])), hr⟩,
    fun x hx => ⟨Bts.but (r.dat x hx).bts hk (hd x hx), (r.dat x hx).ne⟩⟩
theorem Sr.own_lt {w : World} {s b q : Nat} {v : Value} {m : Ms} (r : Sr w s b q v m) : ∀ g, g ∈ own s b q v → g < w.heap.size := by
  intro g hg
  obtain ⟨hh, hq, _⟩ := r.hq
  simp only [own, List.mem_cons, Option.mem_toList] at hg
  rcases hg with rfl | rfl | rfl | hg
  · exact r.hs.lt
  · exact r.hb.lt
  · exact hq.hq.lt
  · exact (hq.own.lt g hg).2
/-- Only blocks that are new since are written. -/
theorem Sr.fresh {w w1 w' : World} {s b q : Nat} {v : Value} {m : Ms} {bs : List Nat} (r : Sr w s b q v m) (r1 : Sr w1 s b q v m) (h0 : Kept [] w w1) (hk : Kept bs w1 w') (h : ∀ g, g ∈ bs → w.heap.size ≤ g) : Sr w' s b q v m :=
  r.kept (h0.trans hk (fun _ h => h) (fun g hg => .inr (h g hg)))
set_option linter.unusedSimpArgs false in
set_option maxRecDepth 100000 in
set_option maxHeartbeats 6400000 in
theorem stamp_m (s b q i : Nat) (v : Value) (m : Ms) (d : Qd.Dv) (w : World) (r : Sr w s b q v m) (hi : i < 2) (hn : (m.way i).next < 4294967296) :
    Calls Try.prog 22 #[.pointer (some ⟨s, 0, none⟩), .int .i64 (i : Int), .agg (dvl d).toArray] w fun e w' => e = .returned (.agg (snt (i : Int) (stD m i d)).toArray) ∧ Sr w' s b q v (stM m i) ∧ Kept [s] w w' := by
  have HR := hx r
  have HI := hx hi
  have hsl := r.hs.lt
  have hii : (i : Int) < 2 := by omega
  clear r
  go_enter Try.func22, Try.ntmps22
  go_upto_region 1 with fail
  generalize hw1 : World.alloc (World.alloc w _) _ = w1
  have hk1 : Kept [] w w1 := by rw [← hw1]; exact ((Kept.refl _ _).alloc _).alloc _
  have HB5 := hx (show Blk w1 w.heap.size (dgl d.d d.p d.c) 34 by rw [← hw1]; exact (Blk.new w (dvl d) _).alloc _)
  have HB6 := hx (show Blk w1 (w.heap.size + 1) (snt 0 dv0) 38 by
    rw [← hw1]
    have h := Blk.new (w.alloc (.cells (dvl d).toArray 34)) (snt 0 dv0) 38
    rw [show (w.alloc (.cells (dvl d).toArray 34)).heap.size = w.heap.size + 1 by simp] at h
    exact h)
  clear hw1
  have R1 := hx (HR.out.kept hk1)
  have K1 := hx hk1
  have HN := hx (fun (W : World) (hk : Kept [] w1 W) => number_any s (i * 15) (sdc m b q) 64 (m.way i) W (R1.out.kept hk).hs (part_way m b q hi) hn)
  have HNS := hx (show w.heap.size ∉ [s] ∧ s ≠ w.heap.size by simp; omega)
  have HLT := hx hsl
  clear hk1 hi hsl hn
  refine wp_region_held_drew (S := (fun w3 => w3.cell? ⟨s, 33, none⟩ = some (.int .u32 m.now))) (by kernel_rfl) (R1.out.hs.cell (i := 33) rfl) (fun hHeld => ?_)
  refine take_by 0 7 (v := ?_) rfl rfl (by kernel_rfl) (by kernel_rfl) (by kernel_rfl) (fun _ _ _ h => h) (Or.inl ⟨by rfl, ?_⟩) (by assumption) ?_
  rotate_left
  · (intro w hSw; (try dsimp only at hSw); go_simp; try with_reducible rfl)
  try simp only [List.setIfInBounds_toArray, List.set_cons_zero, List.set_cons_succ]
  refine take_by 1 8 (v := ?_) rfl rfl (by kernel_rfl) (by kernel_rfl) (by kernel_rfl) (fun _ _ _ h => h) (Or.inl ⟨by rfl, ?_⟩) (by assumption) ?_
  rotate_left
  · (intro w hSw; (try dsimp only at hSw); go_simp; try with_reducible rfl)
  try simp only [List.setIfInBounds_toArray, List.set_cons_zero, List.set_cons_succ]
  refine take_by 2 9 (v := ?_) rfl rfl (by kernel_rfl) (by kernel_rfl) (by kernel_rfl) (fun _ _ _ h => h) (Or.inl ⟨by rfl, ?_⟩) (by assumption) ?_
  rotate_left
  · (intro w hSw; (try dsimp only at hSw); go_simp; try with_reducible rfl)
  try simp only [List.setIfInBounds_toArray, List.set_cons_zero, List.set_cons_succ]
  refine take_by 3 10 (v := ?_) rfl rfl (by kernel_rfl) (by kernel_rfl) (by kernel_rfl) (fun _ _ _ h => h) (Or.inl ⟨by rfl, ?_⟩) (by assumption) ?_
  rotate_left
  · (intro w hSw; (try dsimp only at hSw); go_simp; try with_reducible rfl)
  try simp only [List.setIfInBounds_toArray, List.set_cons_zero, List.set_cons_succ]
  refine take_by 4 11 (v := ?_) rfl rfl (by kernel_rfl) (by kernel_rfl) (by kernel_rfl) (fun _ _ _ h => h) (Or.inl ⟨by rfl, ?_⟩) (by assumption) ?_
  rotate_left
  · (intro w hSw; (try dsimp only at hSw); go_simp; try with_reducible rfl)
  try simp only [List.setIfInBounds_toArray, List.set_cons_zero, List.set_cons_succ]
  refine take_by 5 12 (v := ?_) rfl rfl (by kernel_rfl) (by kernel_rfl) (by kernel_rfl) (fun _ _ _ h => h) (Or.inl ⟨by rfl, ?_⟩) (by assumption) ?_
  rotate_left
  · (intro w hSw; (try dsimp only at hSw); go_simp; try with_reducible rfl)
  try simp only [List.setIfInBounds_toArray, List.set_cons_zero, List.set_cons_succ]
  refine take_by 6 13 (v := ?_) rfl rfl (by kernel_rfl) (by kernel_rfl) (by kernel_rfl) (fun _ _ _ h => h) (Or.inl ⟨by rfl, ?_⟩) (by assumption) ?_
  rotate_left
  · (intro w hSw; (try dsimp only at hSw); go_simp; try with_reducible rfl)
  try simp only [List.setIfInBounds_toArray, List.set_cons_zero, List.set_cons_succ]
  refine take_by 7 14 (v := ?_) rfl rfl (by kernel_rfl) (by kernel_rfl) (by kernel_rfl) (fun _ _ _ h => h) (Or.inl ⟨by rfl, ?_⟩) (by assumption) ?_
  rotate_left
  · (intro w hSw; (try dsimp only at hSw); go_simp; try with_reducible rfl)
  try simp only [List.setIfInBounds_toArray, List.set_cons_zero, List.set_cons_succ]
  refine take_by 8 15 (v := ?_) rfl rfl (by kernel_rfl) (by kernel_rfl) (by kernel_rfl) (fun _ _ _ h => h) (Or.inl ⟨by rfl, ?_⟩) (by assumption) ?_
  rotate_left
  · (intro w hSw; (try dsimp only at hSw); go_simp; try with_reducible rfl)
  try simp only [List.setIfInBounds_toArray, List.set_cons_zero, List.set_cons_succ]
  refine take_by 9 16 (v := ?_) rfl rfl (by kernel_rfl) (by kernel_rfl) (by kernel_rfl) (fun _ _ _ h => h) (Or.inl ⟨by rfl, ?_⟩) (by assumption) ?_
  rotate_left
  · (intro w hSw; (try dsimp only at hSw); go_simp; try with_reducible rfl)
  try simp only [List.setIfInBounds_toArray, List.set_cons_zero, List.set_cons_succ]
  refine take_by 11 18 (v := ?_) rfl rfl (by kernel_rfl) (by kernel_rfl) (by kernel_rfl) (fun _ _ _ h => h) (Or.inl ⟨by rfl, ?_⟩) (by assumption) ?_
  rotate_left
  · (intro w hSw; (try dsimp only at hSw); go_simp; try with_reducible rfl)
  try simp only [List.setIfInBounds_toArray, List.set_cons_zero, List.set_cons_succ]
  refine wpAnyH_ready (rs := [10]) (by kernel_rfl) (by simp) ?_
  refine AllReadyH.cons rfl (fun K hK => ?_) AllReadyH.nil
  go_simp
  (go_at_call 34; refine (HN.out _ (Kept.drew (Kept.refl [] w1))).mono ?_; rintro e w4 ⟨rfl, hb4, hk4⟩; have K4 := hx (show Kept [s] w1 w4 from ((Kept.refl [] w1).drew.mono (by simp)).trans hk4 (fun _ h => h) (fun _ h => .inl h)); have R4 := hx (R1.out.way HI.out _ K4.out hb4); have B4 := hx (K4.out.blk HB5.out HNS.out.1); clear hb4 hk4)
  refine hK.out _ _ (R4.out.hs.cell (i := 33) (nowW _ _ _ b q)) (fun hHeld => ?_)
  clear hK K
  try simp only [Act.put, List.setIfInBounds_toArray, List.set_cons_zero, List.set_cons_succ]
  have cc := B4.out.cell (i := 3) rfl
  have ff := B4.out.free
  refine wpAnyH_ready (rs := [12]) (by kernel_rfl) (by simp) ?_
  refine AllReadyH.cons rfl (fun K hK => ?_) AllReadyH.nil
  go_simp
  generalize hwa : World.setCell _ _ _ = wa at *
  have Ba := hx (show Blk wa w.heap.size (dgl { d.d with path := (i : Int) } d.p d.c) 34 by rw [← hwa]; exact B4.out.set 3 _)
  have Ka := hx (show Kept [s, w.heap.size] w1 wa by rw [← hwa]; exact (K4.out.mono (cs := [s, w.heap.size]) (fun x hx => .inl (by simp at hx; simp [hx]))).setCell (.inl (by simp)) _)
  have KSa := hx (show Kept [w.heap.size] w4 wa by rw [← hwa]; exact (Kept.refl [w.heap.size] w4).setCell (.inl (by simp)) _)
  clear hwa cc ff
  refine hK.out _ _ ((KSa.out.blk R4.out.hs (by have := HNS.out.2; simp; omega)).cell (i := 33) (nowW _ _ _ b q)) (fun _ => ?_)
  clear hK K
  try simp only [Act.put, List.getElem_toArray, List.getElem_cons_succ, List.getElem_cons_zero, List.setIfInBounds_toArray, List.set_cons_zero, List.set_cons_succ]
  refine take_by 13 19 (v := ?_) rfl rfl (by kernel_rfl) (by kernel_rfl) (by kernel_rfl) (fun _ _ _ h => h) (Or.inl ⟨by rfl, ?_⟩) (by assumption) ?_
  rotate_left
  · (intro w hSw; (try dsimp only at hSw); go_simp; try with_reducible rfl)
  try simp only [List.setIfInBounds_toArray, List.set_cons_zero, List.set_cons_succ]
  have cc := Ba.out.cell (i := 4) rfl
  have ff := Ba.out.free
  refine wpAnyH_ready (rs := [14]) (by kernel_rfl) (by simp) ?_
  refine AllReadyH.cons rfl (fun K hK => ?_) AllReadyH.nil
  go_simp
  generalize hwb : World.setCell _ _ _ = wb at *
  have Bb := hx (show Blk wb w.heap.size (dgl { d.d with path := (i : Int), tick := m.now } d.p d.c) 34 by rw [← hwb]; exact Ba.out.set 4 _)
  have Kb := hx (show Kept [s, w.heap.size] w1 wb by rw [← hwb]; exact Ka.out.setCell (.inl (by simp)) _)
  have KSb := hx (show Kept [w.heap.size] w4 wb by rw [← hwb]; exact KSa.out.setCell (.inl (by simp)) _)
  clear hwb cc ff
  refine hK.out _ _ ((KSb.out.blk R4.out.hs (by have := HNS.out.2; simp; omega)).cell (i := 33) (nowW _ _ _ b q)) (fun _ => ?_)
  clear hK K
  try simp only [Act.put, List.getElem_toArray, List.getElem_cons_succ, List.getElem_cons_zero, List.setIfInBounds_toArray, List.set_cons_zero, List.set_cons_succ]
  refine take_by 15 20 (v := ?_) rfl rfl (by kernel_rfl) (by kernel_rfl) (by kernel_rfl) (fun _ _ _ h => h) (Or.inl ⟨by rfl, ?_⟩) (by assumption) ?_
  rotate_left
  · (intro w hSw; (try dsimp only at hSw); go_simp; try with_reducible rfl)
  try simp only [List.setIfInBounds_toArray, List.set_cons_zero, List.set_cons_succ]
  have cc := Bb.out.cell (i := 2) rfl
  have ff := Bb.out.free
  refine wpAnyH_ready (rs := [16]) (by kernel_rfl) (by simp) ?_
  refine AllReadyH.cons rfl (fun K hK => ?_) AllReadyH.nil
  go_simp
  generalize hwc : World.setCell _ _ _ = wc at *
  have Bc := hx (show Blk wc w.heap.size (dgl { d.d with path := (i : Int), tick := m.now, seq := (m.way i).next } d.p d.c) 34 by rw [← hwc]; exact Bb.out.set 2 _)
  have Kc := hx (show Kept [s, w.heap.size] w1 wc by rw [← hwc]; exact Kb.out.setCell (.inl (by simp)) _)
  have KSc := hx (show Kept [w.heap.size] w4 wc by rw [← hwc]; exact KSb.out.setCell (.inl (by simp)) _)
  clear hwc cc ff
  refine hK.out _ _ ((KSc.out.blk R4.out.hs (by have := HNS.out.2; simp; omega)).cell (i := 33) (nowW _ _ _ b q)) (fun _ => ?_)
  clear hK K
  try simp only [Act.put, List.getElem_toArray, List.getElem_cons_succ, List.getElem_cons_zero, List.setIfInBounds_toArray, List.set_cons_zero, List.set_cons_succ]
  refine wpAnyH_done (by kernel_rfl) ?_ _
  have R9 := hx (R4.out.but KSc.out (fun g hg ho => by
    simp only [List.mem_cons, List.not_mem_nil, or_false] at hg
    have := HR.out.own_lt g ho
    omega) (fun x hx g o hp hd hg => by
    simp only [List.mem_cons, List.not_mem_nil, or_false] at hg
    rw [(setW_same m i _).2.2.2.2.2.2.2] at hx
    have := (HR.out.dat x hx).lt hp hd
    omega))
  have HZ := hx (KSc.out.blk (K4.out.blk HB6.out (by have := HLT.out; simp; omega)) (by simp))
  have HD := hx (show dgl { d.d with path := (i : Int), tick := m.now, seq := (m.way i).next } d.p d.c = dvl (stD m i d) from rfl)
  rw [HD.out] at Bc
  have KF := hx (show Kept [s, w.heap.size] w1 wc from Kc.out)
  clear Ba Bb Ka Kb KSa KSb R4 B4 K4 HN HD Kc KSc R1 HB5 HB6
  go_wp2_with (first
    | (refine load_blk rfl 34 (.tmp 5) rfl w.heap.size rfl 34 _ _ Bc.out Try.underlying34 rfl infoDg ?_)
    | (refine wpList_built rfl 38 _ rfl _ [(0, .int .i64 (i : Int)), (1, .agg (dvl (stD m i d)).toArray)] (by simp only [List.map_toArray, List.map_cons, List.map_nil]; rfl) (builtSn (i : Int) (stD m i d)) ?_)
    | (refine store_blk rfl 38 (.tmp 6) (.tmp 23) rfl (w.heap.size + 1) rfl 38 _ (snt (i : Int) (stD m i d)) rfl HZ.out rfl infoSn (snt_one _ _) ?_; intro w7 hb7 hk7; have HB7 := hx hb7; have HK7 := hx hk7; clear hb7 hk7))
  refine bodyPost_ret (ret_blk rfl _ (w.heap.size + 1) _ _ _ rfl HB7.out Try.underlying38 rfl infoSn) rfl ⟨rfl, ?_, ?_⟩
  · exact R9.out.but HK7.out (fun g hg ho => by
      simp only [List.mem_cons, List.not_mem_nil, or_false] at hg
      have := HR.out.own_lt g ho
      omega) (fun x hx g o hp hd hg => by
      simp only [List.mem_cons, List.not_mem_nil, or_false] at hg
      rw [(setW_same m i _).2.2.2.2.2.2.2] at hx
      have := (HR.out.dat x hx).lt hp hd
      omega)
  · have h1 : Kept [s] w wc := (K1.out.mono (cs := [s]) (by simp)).trans KF.out (fun _ h => h) (fun g hg => by
      simp only [List.mem_cons, List.not_mem_nil, or_false] at hg
      rcases hg with rfl | rfl
      · exact .inl (by simp)
      · exact .inr (Nat.le_refl _))
    exact h1.trans HK7.out (fun _ h => h) (fun g hg => by
      simp only [List.mem_cons, List.not_mem_nil, or_false] at hg
      subst hg
      exact .inr (by omega))
end Go.Proofs.Ytgdofgckjkmhjaa.Mp
