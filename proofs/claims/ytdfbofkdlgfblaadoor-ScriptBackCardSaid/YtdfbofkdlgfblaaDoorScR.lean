/- act of the document. -/
import Derived.Test.YtdfbofkdlgfblaaDoorScO
namespace Go.Proofs.YtdfbofkdlgfblaaDoor
open Go Go.RowKit
theorem two_boxes2 (w : World) (x y : List Int) (o1 o2 : Obj) (h1 : o1 = .cells (ints x).toArray 28) (h2 : o2 = .cells (ints y).toArray 28) : Blk ((w.alloc o1).alloc o2) w.heap.size (ints x) 28 ∧ Blk ((w.alloc o1).alloc o2) (w.heap.size + 1) (ints y) 28 ∧ Kept [] w ((w.alloc o1).alloc o2) := by
  subst h1 h2
  refine ⟨(Blk.new w (ints x) 28).alloc _, ?_, ((Kept.refl [] w).alloc _).alloc _⟩
  have h := Blk.new (w.alloc (.cells (ints x).toArray 28)) (ints y) 28
  rwa [show (w.alloc (.cells (ints x).toArray 28)).heap.size = w.heap.size + 1 by simp] at h
theorem Rw.two {w : World} {g o : Nat} {ns : List Int} (h : Rw w (some ⟨g, o, none⟩) ns) (j : Nat) (x : Int) (hj : ns[j]? = some x) : w.cell? ⟨g, o + j, none⟩ = some (.int .i64 x) := by
  obtain ⟨g', o', e, hc⟩ := h j x hj
  simp only [Option.some.injEq, Addr.mk.injEq, and_true] at e
  obtain ⟨rfl, rfl⟩ := e
  exact hc
set_option maxRecDepth 100000 in
set_option maxHeartbeats 6400000 in
theorem act_1 (k : Int) (x : Int) (a : Option Addr) (c : Nat) (w : World) (hr : Rw w a [x]) :
    Calls Tryd.prog 33 #[.int .i64 k, .slice a 1 c] w fun e w' => e = .returned (actV (actN k [x])) ∧ Kept [] w w' := by
  obtain ⟨g, o, rfl, h0⟩ := hr 0 x rfl
  have HLT := hx (World.block_lt_of_cell? _ _ h0)
  clear h0
  have HR := hx hr
  clear hr
  go_enter Tryd.func33, Tryd.ntmps33
  go_upto_region 4 with fail
  have HB := hx (two_boxes2 w (base6 0) (base6 k) (.cells #[.int .i64 0, .int .i64 0, .int .i64 0, .int .i64 0, .int .i64 0, .int .i64 0] 28) (.cells #[.int .i64 k, .int .i64 0, .int .i64 0, .int .i64 0, .int .i64 0, .int .i64 0] 28) rfl rfl)
  generalize World.alloc (World.alloc w (.cells #[.int .i64 0, .int .i64 0, .int .i64 0, .int .i64 0, .int .i64 0, .int .i64 0] 28)) (.cells #[.int .i64 k, .int .i64 0, .int .i64 0, .int .i64 0, .int .i64 0, .int .i64 0] 28) = W at *
  have c0 : W.cell? ⟨g, o, none⟩ = some (.int .i64 x) := (HR.out.kept HB.out.2.2).two 0 x rfl
  have d2 := HB.out.2.1.cell (i := 2) rfl
  have f2 := HB.out.2.1.free 2
  generalize hb0 : w.heap.size = b0 at *
  have HE := hx hb0
  clear hb0
  have hg : g ≠ b0 + 1 := by have := HLT.out; have := HE.out; simp at *; omega
  have hg2 : b0 + 1 ≠ g := Ne.symm hg
  go_upto_region 11 with fail
  have hbw : w.heap.size ≤ b0 + 1 := by have := HE.out; omega
  have HBE := hx (show Blk _ (b0 + 1) (ints (actN k [x])) 28 from (HB.out.2.1.set 2 (.int .i64 x)))
  have HA4 := hx (HB.out.1.set_ne (a := ⟨b0 + 1, 2, none⟩) (by simp) (.int .i64 x))
  have HKE := hx (HB.out.2.2.setCell (p := ⟨b0 + 1, 2, none⟩) (.inr hbw) (.int .i64 x))
  clear c0
  go_wp2_with (first
    | (refine load_blk rfl 28 (.tmp 5) rfl (b0 + 1) rfl 28 _ _ HBE.out Tryd.underlying28 rfl (infoAct' _ rfl) ?_)
    | (refine store_blk rfl 28 (.tmp 4) (.tmp 58) rfl b0 rfl 28 _ (ints (actN k [x])) rfl HA4.out rfl (infoAct' _ rfl) (ints_one _) ?_; intro w6 hb6 hk6; have HB6 := hx hb6; have HK6 := hx hk6; clear hb6 hk6))
  exact bodyPost_ret (ret_blk rfl _ b0 _ _ _ rfl HB6.out Tryd.underlying28 rfl (infoAct' _ rfl)) rfl ⟨rfl, HKE.out.trans HK6.out (fun _ h => h) (fun x h => by simp at h; subst h; exact .inr (by have := HE.out; omega))⟩
set_option maxRecDepth 100000 in
set_option maxHeartbeats 6400000 in
theorem act_2 (k : Int) (x y : Int) (a : Option Addr) (c : Nat) (w : World) (hr : Rw w a [x, y]) :
    Calls Tryd.prog 33 #[.int .i64 k, .slice a 2 c] w fun e w' => e = .returned (actV (actN k [x, y])) ∧ Kept [] w w' := by
  obtain ⟨g, o, rfl, h0⟩ := hr 0 x rfl
  have HLT := hx (World.block_lt_of_cell? _ _ h0)
  clear h0
  have HR := hx hr
  clear hr
  go_enter Tryd.func33, Tryd.ntmps33
  go_upto_region 6 with fail
  have HB := hx (two_boxes2 w (base6 0) (base6 k) (.cells #[.int .i64 0, .int .i64 0, .int .i64 0, .int .i64 0, .int .i64 0, .int .i64 0] 28) (.cells #[.int .i64 k, .int .i64 0, .int .i64 0, .int .i64 0, .int .i64 0, .int .i64 0] 28) rfl rfl)
  generalize World.alloc (World.alloc w (.cells #[.int .i64 0, .int .i64 0, .int .i64 0, .int .i64 0, .int .i64 0, .int .i64 0] 28)) (.cells #[.int .i64 k, .int .i64 0, .int .i64 0, .int .i64 0, .int .i64 0, .int .i64 0] 28) = W at *
  have c0 : W.cell? ⟨g, o, none⟩ = some (.int .i64 x) := (HR.out.kept HB.out.2.2).two 0 x rfl
  have c1 : W.cell? ⟨g, o + 1, none⟩ = some (.int .i64 y) := (HR.out.kept HB.out.2.2).two 1 y rfl
  have d1 := HB.out.2.1.cell (i := 1) rfl
  have f1 := HB.out.2.1.free 1
  have d2 := HB.out.2.1.cell (i := 2) rfl
  have f2 := HB.out.2.1.free 2
  generalize hb0 : w.heap.size = b0 at *
  have HE := hx hb0
  clear hb0
  have hg : g ≠ b0 + 1 := by have := HLT.out; have := HE.out; simp at *; omega
  have hg2 : b0 + 1 ≠ g := Ne.symm hg
  go_region
  have hbw : w.heap.size ≤ b0 + 1 := by have := HE.out; omega
  have HBE := hx (show Blk _ (b0 + 1) (ints (actN k [x, y])) 28 from ((HB.out.2.1.set 1 (.int .i64 x)).set 2 (.int .i64 y)).drew)
  have HA4 := hx ((HB.out.1.set_ne (a := ⟨b0 + 1, 1, none⟩) (by simp) (.int .i64 x)).set_ne (a := ⟨b0 + 1, 2, none⟩) (by simp) (.int .i64 y)).drew
  have HKE := hx ((HB.out.2.2.setCell (p := ⟨b0 + 1, 1, none⟩) (.inr hbw) (.int .i64 x)).setCell (p := ⟨b0 + 1, 2, none⟩) (.inr hbw) (.int .i64 y)).drew
  clear c0
  clear c1
  go_wp2_with (first
    | (refine load_blk rfl 28 (.tmp 5) rfl (b0 + 1) rfl 28 _ _ HBE.out Tryd.underlying28 rfl (infoAct' _ rfl) ?_)
    | (refine store_blk rfl 28 (.tmp 4) (.tmp 58) rfl b0 rfl 28 _ (ints (actN k [x, y])) rfl HA4.out rfl (infoAct' _ rfl) (ints_one _) ?_; intro w6 hb6 hk6; have HB6 := hx hb6; have HK6 := hx hk6; clear hb6 hk6))
  exact bodyPost_ret (ret_blk rfl _ b0 _ _ _ rfl HB6.out Tryd.underlying28 rfl (infoAct' _ rfl)) rfl ⟨rfl, HKE.out.trans HK6.out (fun _ h => h) (fun x h => by simp at h; subst h; exact .inr (by have := HE.out; omega))⟩
set_option maxRecDepth 100000 in
set_option maxHeartbeats 6400000 in
theorem act_3 (k : Int) (x y z : Int) (a : Option Addr) (c : Nat) (w : World) (hr : Rw w a [x, y, z]) :
    Calls Tryd.prog 33 #[.int .i64 k, .slice a 3 c] w fun e w' => e = .returned (actV (actN k [x, y, z])) ∧ Kept [] w w' := by
  obtain ⟨g, o, rfl, h0⟩ := hr 0 x rfl
  have HLT := hx (World.block_lt_of_cell? _ _ h0)
  clear h0
  have HR := hx hr
  clear hr
  go_enter Tryd.func33, Tryd.ntmps33
  go_upto_region 8 with fail
  have HB := hx (two_boxes2 w (base6 0) (base6 k) (.cells #[.int .i64 0, .int .i64 0, .int .i64 0, .int .i64 0, .int .i64 0, .int .i64 0] 28) (.cells #[.int .i64 k, .int .i64 0, .int .i64 0, .int .i64 0, .int .i64 0, .int .i64 0] 28) rfl rfl)
  generalize World.alloc (World.alloc w (.cells #[.int .i64 0, .int .i64 0, .int .i64 0, .int .i64 0, .int .i64 0, .int .i64 0] 28)) (.cells #[.int .i64 k, .int .i64 0, .int .i64 0, .int .i64 0, .int .i64 0, .int .i64 0] 28) = W at *
  have c0 : W.cell? ⟨g, o, none⟩ = some (.int .i64 x) := (HR.out.kept HB.out.2.2).two 0 x rfl
  have c1 : W.cell? ⟨g, o + 1, none⟩ = some (.int .i64 y) := (HR.out.kept HB.out.2.2).two 1 y rfl
  have c2 : W.cell? ⟨g, o + 2, none⟩ = some (.int .i64 z) := (HR.out.kept HB.out.2.2).two 2 z rfl
  have d1 := HB.out.2.1.cell (i := 1) rfl
  have f1 := HB.out.2.1.free 1
  have d2 := HB.out.2.1.cell (i := 2) rfl
  have f2 := HB.out.2.1.free 2
  have d3 := HB.out.2.1.cell (i := 3) rfl
  have f3 := HB.out.2.1.free 3
  generalize hb0 : w.heap.size = b0 at *
  have HE := hx hb0
  clear hb0
  have hg : g ≠ b0 + 1 := by have := HLT.out; have := HE.out; simp at *; omega
  have hg2 : b0 + 1 ≠ g := Ne.symm hg
  go_region
  have hbw : w.heap.size ≤ b0 + 1 := by have := HE.out; omega
  have HBE := hx (show Blk _ (b0 + 1) (ints (actN k [x, y, z])) 28 from (((HB.out.2.1.set 1 (.int .i64 x)).set 3 (.int .i64 y)).set 2 (.int .i64 z)).drew)
  have HA4 := hx (((HB.out.1.set_ne (a := ⟨b0 + 1, 1, none⟩) (by simp) (.int .i64 x)).set_ne (a := ⟨b0 + 1, 3, none⟩) (by simp) (.int .i64 y)).set_ne (a := ⟨b0 + 1, 2, none⟩) (by simp) (.int .i64 z)).drew
  have HKE := hx (((HB.out.2.2.setCell (p := ⟨b0 + 1, 1, none⟩) (.inr hbw) (.int .i64 x)).setCell (p := ⟨b0 + 1, 3, none⟩) (.inr hbw) (.int .i64 y)).setCell (p := ⟨b0 + 1, 2, none⟩) (.inr hbw) (.int .i64 z)).drew
  clear c0
  clear c1
  clear c2
  go_wp2_with (first
    | (refine load_blk rfl 28 (.tmp 5) rfl (b0 + 1) rfl 28 _ _ HBE.out Tryd.underlying28 rfl (infoAct' _ rfl) ?_)
    | (refine store_blk rfl 28 (.tmp 4) (.tmp 58) rfl b0 rfl 28 _ (ints (actN k [x, y, z])) rfl HA4.out rfl (infoAct' _ rfl) (ints_one _) ?_; intro w6 hb6 hk6; have HB6 := hx hb6; have HK6 := hx hk6; clear hb6 hk6))
  exact bodyPost_ret (ret_blk rfl _ b0 _ _ _ rfl HB6.out Tryd.underlying28 rfl (infoAct' _ rfl)) rfl ⟨rfl, HKE.out.trans HK6.out (fun _ h => h) (fun x h => by simp at h; subst h; exact .inr (by have := HE.out; omega))⟩
set_option maxRecDepth 100000 in
set_option maxHeartbeats 6400000 in
theorem act_4 (k : Int) (x y z u : Int) (a : Option Addr) (c : Nat) (w : World) (hr : Rw w a [x, y, z, u]) :
    Calls Tryd.prog 33 #[.int .i64 k, .slice a 4 c] w fun e w' => e = .returned (actV (actN k [x, y, z, u])) ∧ Kept [] w w' := by
  obtain ⟨g, o, rfl, h0⟩ := hr 0 x rfl
  have HLT := hx (World.block_lt_of_cell? _ _ h0)
  clear h0
  have HR := hx hr
  clear hr
  go_enter Tryd.func33, Tryd.ntmps33
  go_upto_region 10 with fail
  have HB := hx (two_boxes2 w (base6 0) (base6 k) (.cells #[.int .i64 0, .int .i64 0, .int .i64 0, .int .i64 0, .int .i64 0, .int .i64 0] 28) (.cells #[.int .i64 k, .int .i64 0, .int .i64 0, .int .i64 0, .int .i64 0, .int .i64 0] 28) rfl rfl)
  generalize World.alloc (World.alloc w (.cells #[.int .i64 0, .int .i64 0, .int .i64 0, .int .i64 0, .int .i64 0, .int .i64 0] 28)) (.cells #[.int .i64 k, .int .i64 0, .int .i64 0, .int .i64 0, .int .i64 0, .int .i64 0] 28) = W at *
  have c0 : W.cell? ⟨g, o, none⟩ = some (.int .i64 x) := (HR.out.kept HB.out.2.2).two 0 x rfl
  have c1 : W.cell? ⟨g, o + 1, none⟩ = some (.int .i64 y) := (HR.out.kept HB.out.2.2).two 1 y rfl
  have c2 : W.cell? ⟨g, o + 2, none⟩ = some (.int .i64 z) := (HR.out.kept HB.out.2.2).two 2 z rfl
  have c3 : W.cell? ⟨g, o + 3, none⟩ = some (.int .i64 u) := (HR.out.kept HB.out.2.2).two 3 u rfl
  have d1 := HB.out.2.1.cell (i := 1) rfl
  have f1 := HB.out.2.1.free 1
  have d3 := HB.out.2.1.cell (i := 3) rfl
  have f3 := HB.out.2.1.free 3
  have d4 := HB.out.2.1.cell (i := 4) rfl
  have f4 := HB.out.2.1.free 4
  have d5 := HB.out.2.1.cell (i := 5) rfl
  have f5 := HB.out.2.1.free 5
  generalize hb0 : w.heap.size = b0 at *
  have HE := hx hb0
  clear hb0
  have hg : g ≠ b0 + 1 := by have := HLT.out; have := HE.out; simp at *; omega
  have hg2 : b0 + 1 ≠ g := Ne.symm hg
  go_region
  have hbw : w.heap.size ≤ b0 + 1 := by have := HE.out; omega
  have HBE := hx (show Blk _ (b0 + 1) (ints (actN k [x, y, z, u])) 28 from ((((HB.out.2.1.set 1 (.int .i64 x)).set 3 (.int .i64 y)).set 4 (.int .i64 z)).set 5 (.int .i64 u)).drew)
  have HA4 := hx ((((HB.out.1.set_ne (a := ⟨b0 + 1, 1, none⟩) (by simp) (.int .i64 x)).set_ne (a := ⟨b0 + 1, 3, none⟩) (by simp) (.int .i64 y)).set_ne (a := ⟨b0 + 1, 4, none⟩) (by simp) (.int .i64 z)).set_ne (a := ⟨b0 + 1, 5, none⟩) (by simp) (.int .i64 u)).drew
  have HKE := hx ((((HB.out.2.2.setCell (p := ⟨b0 + 1, 1, none⟩) (.inr hbw) (.int .i64 x)).setCell (p := ⟨b0 + 1, 3, none⟩) (.inr hbw) (.int .i64 y)).setCell (p := ⟨b0 + 1, 4, none⟩) (.inr hbw) (.int .i64 z)).setCell (p := ⟨b0 + 1, 5, none⟩) (.inr hbw) (.int .i64 u)).drew
  clear c0
  clear c1
  clear c2
  clear c3
  go_wp2_with (first
    | (refine load_blk rfl 28 (.tmp 5) rfl (b0 + 1) rfl 28 _ _ HBE.out Tryd.underlying28 rfl (infoAct' _ rfl) ?_)
    | (refine store_blk rfl 28 (.tmp 4) (.tmp 58) rfl b0 rfl 28 _ (ints (actN k [x, y, z, u])) rfl HA4.out rfl (infoAct' _ rfl) (ints_one _) ?_; intro w6 hb6 hk6; have HB6 := hx hb6; have HK6 := hx hk6; clear hb6 hk6))
  exact bodyPost_ret (ret_blk rfl _ b0 _ _ _ rfl HB6.out Tryd.underlying28 rfl (infoAct' _ rfl)) rfl ⟨rfl, HKE.out.trans HK6.out (fun _ h => h) (fun x h => by simp at h; subst h; exact .inr (by have := HE.out; omega))⟩
set_option maxRecDepth 100000 in
set_option maxHeartbeats 6400000 in
theorem act_0 (k : Int) (a : Option Addr) (c : Nat) (w : World) :
    Calls Tryd.prog 33 #[.int .i64 k, .slice a 0 c] w fun e w' => e = .returned (actV (base6 k)) ∧ Kept [] w w' := by
  go_enter Tryd.func33, Tryd.ntmps33
  go_upto_region 11 with fail
  have HB := hx (two_boxes2 w (base6 0) (base6 k) (.cells #[.int .i64 0, .int .i64 0, .int .i64 0, .int .i64 0, .int .i64 0, .int .i64 0] 28) (.cells #[.int .i64 k, .int .i64 0, .int .i64 0, .int .i64 0, .int .i64 0, .int .i64 0] 28) rfl rfl)
  generalize World.alloc (World.alloc w (.cells #[.int .i64 0, .int .i64 0, .int .i64 0, .int .i64 0, .int .i64 0, .int .i64 0] 28)) (.cells #[.int .i64 k, .int .i64 0, .int .i64 0, .int .i64 0, .int .i64 0, .int .i64 0] 28) = W at *
  generalize hb0 : w.heap.size = b0 at *
  have HE := hx hb0
  clear hb0
  go_wp2_with (first
    | (refine load_blk rfl 28 (.tmp 5) rfl (b0 + 1) rfl 28 _ _ HB.out.2.1 Tryd.underlying28 rfl (infoAct' _ rfl) ?_)
    | (refine store_blk rfl 28 (.tmp 4) (.tmp 58) rfl b0 rfl 28 _ (ints (base6 k)) rfl HB.out.1 rfl (infoAct' _ rfl) (ints_one _) ?_; intro w6 hb6 hk6; have HB6 := hx hb6; have HK6 := hx hk6; clear hb6 hk6))
  exact bodyPost_ret (ret_blk rfl _ b0 _ _ _ rfl HB6.out Tryd.underlying28 rfl (infoAct' _ rfl)) rfl ⟨rfl, HB.out.2.2.trans HK6.out (fun _ h => h) (fun x h => by simp at h; subst h; exact .inr (by have := HE.out; omega))⟩
set_option maxRecDepth 100000 in
set_option maxHeartbeats 6400000 in
theorem act_more (k : Int) (n : Nat) (hn : 4 < n) (a : Option Addr) (c : Nat) (w : World) :
    Calls Tryd.prog 33 #[.int .i64 k, .slice a n c] w fun e w' => e = .returned (actV (base6 k)) ∧ Kept [] w w' := by
  have h1 : ((n : Int) == 1) = false := by simp; omega
  have h2 : ((n : Int) == 2) = false := by simp; omega
  have h3 : ((n : Int) == 3) = false := by simp; omega
  have h4 : ((n : Int) == 4) = false := by simp; omega
  go_enter Tryd.func33, Tryd.ntmps33
  go_upto_region 11 with fail
  have HB := hx (two_boxes2 w (base6 0) (base6 k) (.cells #[.int .i64 0, .int .i64 0, .int .i64 0, .int .i64 0, .int .i64 0, .int .i64 0] 28) (.cells #[.int .i64 k, .int .i64 0, .int .i64 0, .int .i64 0, .int .i64 0, .int .i64 0] 28) rfl rfl)
  generalize World.alloc (World.alloc w (.cells #[.int .i64 0, .int .i64 0, .int .i64 0, .int .i64 0, .int .i64 0, .int .i64 0] 28)) (.cells #[.int .i64 k, .int .i64 0, .int .i64 0, .int .i64 0, .int .i64 0, .int .i64 0] 28) = W at *
  generalize hb0 : w.heap.size = b0 at *
  have HE := hx hb0
  clear hb0
  go_wp2_with (first
    | (refine load_blk rfl 28 (.tmp 5) rfl (b0 + 1) rfl 28 _ _ HB.out.2.1 Tryd.underlying28 rfl (infoAct' _ rfl) ?_)
    | (refine store_blk rfl 28 (.tmp 4) (.tmp 58) rfl b0 rfl 28 _ (ints (base6 k)) rfl HB.out.1 rfl (infoAct' _ rfl) (ints_one _) ?_; intro w6 hb6 hk6; have HB6 := hx hb6; have HK6 := hx hk6; clear hb6 hk6))
  exact bodyPost_ret (ret_blk rfl _ b0 _ _ _ rfl HB6.out Tryd.underlying28 rfl (infoAct' _ rfl)) rfl ⟨rfl, HB.out.2.2.trans HK6.out (fun _ h => h) (fun x h => by simp at h; subst h; exact .inr (by have := HE.out; omega))⟩
/-- The document's act. -/
theorem act_any (k : Int) (ns : List Int) (a : Option Addr) (c : Nat) (w : World) (hr : Rw w a ns) :
    Calls Tryd.prog 33 #[.int .i64 k, .slice a ns.length c] w fun e w' => e = .returned (actV (actN k ns)) ∧ Kept [] w w' := by
  match ns, hr with
  | [], _ => exact act_0 k a c w
  | [x], hr => exact act_1 k x a c w hr
  | [x, y], hr => exact act_2 k x y a c w hr
  | [x, y, z], hr => exact act_3 k x y z a c w hr
  | [x, y, z, u], hr => exact act_4 k x y z u a c w hr
  | x :: y :: z :: u :: v :: r, _ =>
    have h := act_more k (x :: y :: z :: u :: v :: r).length (by simp) a c w
    have e : actN k (x :: y :: z :: u :: v :: r) = base6 k := by
      have e1 : fldN (x :: y :: z :: u :: v :: r).length = [] := by
        unfold fldN
        simp only [List.length_cons]
        rw [if_neg (by omega), if_neg (by omega), if_neg (by omega), if_neg (by omega)]
      unfold actN
      rw [e1]
      rfl
    rw [e]
    exact h
end Go.Proofs.YtdfbofkdlgfblaaDoor
