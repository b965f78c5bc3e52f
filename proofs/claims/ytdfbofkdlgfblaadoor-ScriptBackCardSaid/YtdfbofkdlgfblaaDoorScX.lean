/- heads of the document. -/
import Derived.Test.YtdfbofkdlgfblaaDoorScV
import Derived.Test.YtdfbofkdlgfblaaDoorInv
namespace Go.Proofs.YtdfbofkdlgfblaaDoor
open Go Go.RowKit
theorem Rw.alloc {w : World} {a : Option Addr} {ns : List Int} (h : Rw w a ns) (o : Obj) : Rw (w.alloc o) a ns := h.kept ((Kept.refl [] w).alloc o)
theorem Rw.new3 (w : World) (x y z : Int) : Rw (w.alloc (.cells #[.int .i64 x, .int .i64 y, .int .i64 z] 3)) (some ⟨w.heap.size, 0, none⟩) [x, y, z] := Rw.blk (Blk.new w (ints [x, y, z]) 3) rfl
theorem Rw.new2 (w : World) (x y : Int) : Rw (w.alloc (.cells #[.int .i64 x, .int .i64 y] 3)) (some ⟨w.heap.size, 0, none⟩) [x, y] := Rw.blk (Blk.new w (ints [x, y]) 3) rfl
theorem wpOp_run {P : Program} {ops : Array Oper} {Q : Exit → Act → World → Prop} {i : Nat} {o : Oper} {K : Act → World → Prop} {a : Act} {w w' : World} {v : Value} (ho : ops[i]? = some o) (hg : o.guard = none)
    (hrun : (execOp a.eval o).run P w = .ok (.value v) w') (hK : K (a.put o.dst v) w') : wpOp P ops Q i K a w := by
  unfold wpOp
  rw [ho]
  simp only [Region.wanted, hg, if_true]
  left
  unfold Oper.wp
  rw [hrun]
  exact hK
theorem wpOp_call {P : Program} {ops : Array Oper} {Q : Exit → Act → World → Prop} {i : Nat} {o : Oper} {K : Act → World → Prop} {a : Act} {w w' : World} {f : FuncId} {args : Array Value} (ho : ops[i]? = some o) (hg : o.guard = none)
    (hrun : (execOp a.eval o).run P w = .ok (.enter f args) w') (hK : Calls P f args w' fun e w'' => ∃ v, e = .returned v ∧ K (a.put o.dst v) w'') : wpOp P ops Q i K a w := by
  unfold wpOp
  rw [ho]
  simp only [Region.wanted, hg, if_true]
  left
  unfold Oper.wp
  rw [hrun]
  refine hK.mono ?_
  rintro e w'' ⟨v, rfl, h⟩
  exact h
theorem wpOp_store {P : Program} {ops : Array Oper} {Q : Exit → Act → World → Prop} {i : Nat} {o : Oper} {K : Act → World → Prop} {a : Act} {w : World} (ho : ops[i]? = some o) (hg : o.guard = none) (ty : TypeId) (x y : Operand) (hop : o.op = .store ty x y)
    (b : Nat) (hx : a.eval x = .pointer (some ⟨b, 0, none⟩)) (T : TypeId) (xs ys : List Value) (hy : a.eval y = .agg ys.toArray) (hb : Blk w b xs T) (hl : ys.length = xs.length)
    (hi : (P.info? ty).map (·.size) = some ys.length) (h1 : ∀ v ∈ ys, v.oneCell' = true)
    (hK : ∀ w', Blk w' b ys T → Kept [b] w w' → K (a.put o.dst undef) w') : wpOp P ops Q i K a w := by
  unfold wpOp
  rw [ho]
  simp only [Region.wanted, hg, if_true]
  left
  exact wp_store_mid ty x y hop b 0 ys.toArray hx hy (hb.there (by simp [hl])) (by simpa using hi) (all_oneCell_toArray h1)
    (hK _ (by
      have e := hb.setCells 0 ys
      rw [setAll_all _ _ hl] at e
      simpa using e) ((Kept.refl _ _).setCells (by simp) 0 _))
/-- What each operation of heads leaves. -/
def HdF (b0 : Nat) (ses tok seed del ahe siz age mos rat bur : Int) (i : Nat) (v : Value) (w : World) : Prop :=
  match i with
  | 0 => v = .pointer (some ⟨b0, 2, none⟩)
  | 1 => v = .int .u32 seed
  | 2 => v = .int .i64 seed
  | 3 => v = .pointer (some ⟨b0, 4, none⟩)
  | 4 => v = .int .i64 del
  | 5 => v = .pointer (some ⟨b0, 5, none⟩)
  | 6 => v = .int .i64 ahe
  | 7 => ∃ g, v = .slice (some ⟨g, 0, none⟩) 3 3 ∧ Rw w (some ⟨g, 0, none⟩) [seed, del, ahe]
  | 8 => v = txt (accL [103, 97, 109, 101] [seed, del, ahe])
  | 9 => v = .pointer (some ⟨b0, 6, none⟩)
  | 10 => v = .int .i64 siz
  | 11 => v = .pointer (some ⟨b0, 7, none⟩)
  | 12 => v = .int .i64 age
  | 13 => v = .pointer (some ⟨b0, 8, none⟩)
  | 14 => v = .int .i64 mos
  | 15 => ∃ g, v = .slice (some ⟨g, 0, none⟩) 3 3 ∧ Rw w (some ⟨g, 0, none⟩) [siz, age, mos]
  | 16 => v = txt (accL [115, 101, 110, 100] [siz, age, mos])
  | 17 => v = .pointer (some ⟨b0, 9, none⟩)
  | 18 => v = .int .i64 rat
  | 19 => v = .pointer (some ⟨b0, 10, none⟩)
  | 20 => v = .int .i64 bur
  | 21 => ∃ g, v = .slice (some ⟨g, 0, none⟩) 2 2 ∧ Rw w (some ⟨g, 0, none⟩) [rat, bur]
  | 22 => v = txt (accL [114, 97, 116, 101] [rat, bur])
  | 23 => v = .pointer (some ⟨b0, 0, none⟩)
  | 24 => v = .int .u32 ses
  | 25 => v = .int .i64 ses
  | 26 => v = .pointer (some ⟨b0, 1, none⟩)
  | 27 => v = .int .u32 tok
  | 28 => v = .int .i64 tok
  | 29 => ∃ g, v = .slice (some ⟨g, 0, none⟩) 2 2 ∧ Rw w (some ⟨g, 0, none⟩) [ses, tok]
  | 30 => v = txt (accL [109, 101, 101, 116] [ses, tok])
  | 31 => v = .agg #[txt (accL [103, 97, 109, 101] [seed, del, ahe]), txt (accL [115, 101, 110, 100] [siz, age, mos]), txt (accL [114, 97, 116, 101] [rat, bur]), txt (accL [109, 101, 101, 116] [ses, tok])]
  | _ => True
theorem HdF.kept {b0 : Nat} {ses tok seed del ahe siz age mos rat bur : Int} (i : Nat) (v : Value) (w w' : World) (h : HdF b0 ses tok seed del ahe siz age mos rat bur i v w) (hk : Kept [] w w') : HdF b0 ses tok seed del ahe siz age mos rat bur i v w' := by
  unfold HdF at *
  split at h
  all_goals first | exact h | (obtain ⟨g, h1, h2⟩ := h; exact ⟨g, h1, h2.kept hk⟩)
set_option maxRecDepth 100000 in
set_option maxHeartbeats 40000000 in
theorem rheads_any (ses tok seed loc del ahe siz age mos rat bur : Int) (w : World) (h0 : in64 ses) (h1 : in64 tok) (h2 : in64 seed) (h4 : in64 del) (h5 : in64 ahe) (h6 : in64 siz) (h7 : in64 age) (h8 : in64 mos) (h9 : in64 rat) (h10 : in64 bur) (hs1 : IntKind.i64.wrap seed = seed) (hs2 : IntKind.i64.wrap ses = ses) (hs3 : IntKind.i64.wrap tok = tok) :
    Calls Tryd.prog 39 #[.agg #[.int .u32 ses, .int .u32 tok, .int .u32 seed, .int .i64 loc, .int .i64 del, .int .i64 ahe, .int .i64 siz, .int .i64 age, .int .i64 mos, .int .i64 rat, .int .i64 bur]] w fun e w' => e = .returned (.agg #[txt (accL [103, 97, 109, 101] [seed, del, ahe]), txt (accL [115, 101, 110, 100] [siz, age, mos]), txt (accL [114, 97, 116, 101] [rat, bur]), txt (accL [109, 101, 101, 116] [ses, tok])]) ∧ Kept [] w w' := by
  have Hgame := hx (fun (g : Nat) (w1 : World) (hr : Rw w1 (some ⟨g, 0, none⟩) [seed, del, ahe]) => join_any [103, 97, 109, 101] [seed, del, ahe] (some ⟨g, 0, none⟩) 3 w1 hr (by intro n hn; simp only [List.mem_cons, List.not_mem_nil, or_false] at hn; rcases hn with rfl | rfl | rfl <;> assumption) (by decide) (by simp) : ∀ (g : Nat) (w1 : World), Rw w1 (some ⟨g, 0, none⟩) [seed, del, ahe] → Calls Tryd.prog 29 #[.string { data := #[103, 97, 109, 101] }, .slice (some ⟨g, 0, none⟩) 3 3] w1 fun e w' => e = .returned (txt (accL [103, 97, 109, 101] [seed, del, ahe])) ∧ Kept [] w1 w')
  have Hsend := hx (fun (g : Nat) (w1 : World) (hr : Rw w1 (some ⟨g, 0, none⟩) [siz, age, mos]) => join_any [115, 101, 110, 100] [siz, age, mos] (some ⟨g, 0, none⟩) 3 w1 hr (by intro n hn; simp only [List.mem_cons, List.not_mem_nil, or_false] at hn; rcases hn with rfl | rfl | rfl <;> assumption) (by decide) (by simp) : ∀ (g : Nat) (w1 : World), Rw w1 (some ⟨g, 0, none⟩) [siz, age, mos] → Calls Tryd.prog 29 #[.string { data := #[115, 101, 110, 100] }, .slice (some ⟨g, 0, none⟩) 3 3] w1 fun e w' => e = .returned (txt (accL [115, 101, 110, 100] [siz, age, mos])) ∧ Kept [] w1 w')
  have Hrate := hx (fun (g : Nat) (w1 : World) (hr : Rw w1 (some ⟨g, 0, none⟩) [rat, bur]) => join_any [114, 97, 116, 101] [rat, bur] (some ⟨g, 0, none⟩) 2 w1 hr (by intro n hn; simp only [List.mem_cons, List.not_mem_nil, or_false] at hn; rcases hn with rfl | rfl <;> assumption) (by decide) (by simp) : ∀ (g : Nat) (w1 : World), Rw w1 (some ⟨g, 0, none⟩) [rat, bur] → Calls Tryd.prog 29 #[.string { data := #[114, 97, 116, 101] }, .slice (some ⟨g, 0, none⟩) 2 2] w1 fun e w' => e = .returned (txt (accL [114, 97, 116, 101] [rat, bur])) ∧ Kept [] w1 w')
  have Hmeet := hx (fun (g : Nat) (w1 : World) (hr : Rw w1 (some ⟨g, 0, none⟩) [ses, tok]) => join_any [109, 101, 101, 116] [ses, tok] (some ⟨g, 0, none⟩) 2 w1 hr (by intro n hn; simp only [List.mem_cons, List.not_mem_nil, or_false] at hn; rcases hn with rfl | rfl <;> assumption) (by decide) (by simp) : ∀ (g : Nat) (w1 : World), Rw w1 (some ⟨g, 0, none⟩) [ses, tok] → Calls Tryd.prog 29 #[.string { data := #[109, 101, 101, 116] }, .slice (some ⟨g, 0, none⟩) 2 2] w1 fun e w' => e = .returned (txt (accL [109, 101, 101, 116] [ses, tok])) ∧ Kept [] w1 w')
  go_enter Tryd.func39, Tryd.ntmps39
  go_upto_region 1 with fail
  have HB := hx ((Blk.new w [.int .u32 ses, .int .u32 tok, .int .u32 seed, .int .i64 loc, .int .i64 del, .int .i64 ahe, .int .i64 siz, .int .i64 age, .int .i64 mos, .int .i64 rat, .int .i64 bur] 50).alloc (.cells #[txt [], txt [], txt [], txt []] 91))
  have HB1 := hx (by simpa using Blk.new (w.alloc (.cells #[.int .u32 ses, .int .u32 tok, .int .u32 seed, .int .i64 loc, .int .i64 del, .int .i64 ahe, .int .i64 siz, .int .i64 age, .int .i64 mos, .int .i64 rat, .int .i64 bur] 50)) [txt [], txt [], txt [], txt []] 91 : Blk ((w.alloc (.cells #[.int .u32 ses, .int .u32 tok, .int .u32 seed, .int .i64 loc, .int .i64 del, .int .i64 ahe, .int .i64 siz, .int .i64 age, .int .i64 mos, .int .i64 rat, .int .i64 bur] 50)).alloc (.cells #[txt [], txt [], txt [], txt []] 91)) (w.heap.size + 1) [txt [], txt [], txt [], txt []] 91)
  have HK0 := hx (((Kept.refl [] w).alloc (.cells #[.int .u32 ses, .int .u32 tok, .int .u32 seed, .int .i64 loc, .int .i64 del, .int .i64 ahe, .int .i64 siz, .int .i64 age, .int .i64 mos, .int .i64 rat, .int .i64 bur] 50)).alloc (.cells #[txt [], txt [], txt [], txt []] 91))
  generalize World.alloc (World.alloc w (.cells #[.int .u32 ses, .int .u32 tok, .int .u32 seed, .int .i64 loc, .int .i64 del, .int .i64 ahe, .int .i64 siz, .int .i64 age, .int .i64 mos, .int .i64 rat, .int .i64 bur] 50)) _ = W at *
  generalize hb00 : w.heap.size = b0 at *
  have HB0 := hx hb00
  clear hb00
  clear h0 h1 h2 h4 h5 h6 h7 h8 h9 h10
  refine region_inv (by kernel_rfl) 32 rfl (HdF b0 ses tok seed del ahe siz age mos rat bur) HdF.kept ?_ ?_ ?_ ?_ ?_ ?_
  · exact dist_of (by decide +kernel)
  · exact size_of (m := 35) (by decide +kernel)
  · exact dag_of (by decide +kernel)
  · exact last_of (by decide +kernel)
  · intro i o hi ho a w1 hk hb hdep K hK
    have hc : i = 0 ∨ i = 1 ∨ i = 2 ∨ i = 3 ∨ i = 4 ∨ i = 5 ∨ i = 6 ∨ i = 7 ∨ i = 8 ∨ i = 9 ∨ i = 10 ∨ i = 11 ∨ i = 12 ∨ i = 13 ∨ i = 14 ∨ i = 15 ∨ i = 16 ∨ i = 17 ∨ i = 18 ∨ i = 19 ∨ i = 20 ∨ i = 21 ∨ i = 22 ∨ i = 23 ∨ i = 24 ∨ i = 25 ∨ i = 26 ∨ i = 27 ∨ i = 28 ∨ i = 29 ∨ i = 30 ∨ i = 31 := by omega
    rcases hc with rfl | rfl | rfl | rfl | rfl | rfl | rfl | rfl | rfl | rfl | rfl | rfl | rfl | rfl | rfl | rfl | rfl | rfl | rfl | rfl | rfl | rfl | rfl | rfl | rfl | rfl | rfl | rfl | rfl | rfl | rfl | rfl
    · obtain rfl := Option.some.inj (show some _ = some o from ho)
      have e1 : a.tmps.getD 1 undef = .pointer (some ⟨b0, 0, none⟩) := hb.slot 1 (free_of (by decide +kernel))
      refine wpOp_run rfl rfl (v := .pointer (some ⟨b0, 2, none⟩)) (by simp [execOp, Act.eval, e1, go_sem]) (hK _ _ (Kept.refl _ _) rfl)
    · obtain rfl := Option.some.inj (show some _ = some o from ho)
      have e1 : a.tmps.getD 3 undef = .pointer (some ⟨b0, 2, none⟩) := hdep { on := 0, ground := .data } (by simp) _ 3 rfl rfl
      have c1 := (hk.blk HB.out.drew (by simp)).cell (i := 2) rfl
      refine wpOp_run rfl rfl (v := .int .u32 seed) (by simp [execOp, Act.eval, e1, c1, go_sem]) (hK _ _ (Kept.refl _ _) rfl)
    · obtain rfl := Option.some.inj (show some _ = some o from ho)
      have e1 : a.tmps.getD 4 undef = .int .u32 seed := hdep { on := 1, ground := .data } (by simp) _ 4 rfl rfl
      refine wpOp_run rfl rfl (v := .int .i64 seed) (by simp [execOp, Act.eval, e1, hs1, go_sem]) (hK _ _ (Kept.refl _ _) rfl)
    · obtain rfl := Option.some.inj (show some _ = some o from ho)
      have e1 : a.tmps.getD 1 undef = .pointer (some ⟨b0, 0, none⟩) := hb.slot 1 (free_of (by decide +kernel))
      refine wpOp_run rfl rfl (v := .pointer (some ⟨b0, 4, none⟩)) (by simp [execOp, Act.eval, e1, go_sem]) (hK _ _ (Kept.refl _ _) rfl)
    · obtain rfl := Option.some.inj (show some _ = some o from ho)
      have e1 : a.tmps.getD 6 undef = .pointer (some ⟨b0, 4, none⟩) := hdep { on := 3, ground := .data } (by simp) _ 6 rfl rfl
      have c1 := (hk.blk HB.out.drew (by simp)).cell (i := 4) rfl
      refine wpOp_run rfl rfl (v := .int .i64 del) (by simp [execOp, Act.eval, e1, c1, go_sem]) (hK _ _ (Kept.refl _ _) rfl)
    · obtain rfl := Option.some.inj (show some _ = some o from ho)
      have e1 : a.tmps.getD 1 undef = .pointer (some ⟨b0, 0, none⟩) := hb.slot 1 (free_of (by decide +kernel))
      refine wpOp_run rfl rfl (v := .pointer (some ⟨b0, 5, none⟩)) (by simp [execOp, Act.eval, e1, go_sem]) (hK _ _ (Kept.refl _ _) rfl)
    · obtain rfl := Option.some.inj (show some _ = some o from ho)
      have e1 : a.tmps.getD 8 undef = .pointer (some ⟨b0, 5, none⟩) := hdep { on := 5, ground := .data } (by simp) _ 8 rfl rfl
      have c1 := (hk.blk HB.out.drew (by simp)).cell (i := 5) rfl
      refine wpOp_run rfl rfl (v := .int .i64 ahe) (by simp [execOp, Act.eval, e1, c1, go_sem]) (hK _ _ (Kept.refl _ _) rfl)
    · obtain rfl := Option.some.inj (show some _ = some o from ho)
      have e0 : a.tmps[5]?.getD undef = .int .i64 seed := by simpa using (show a.tmps.getD 5 undef = .int .i64 seed from hdep { on := 2, ground := .data } (by simp) _ 5 rfl rfl)
      have e1 : a.tmps[7]?.getD undef = .int .i64 del := by simpa using (show a.tmps.getD 7 undef = .int .i64 del from hdep { on := 4, ground := .data } (by simp) _ 7 rfl rfl)
      have e2 : a.tmps[9]?.getD undef = .int .i64 ahe := by simpa using (show a.tmps.getD 9 undef = .int .i64 ahe from hdep { on := 6, ground := .data } (by simp) _ 9 rfl rfl)
      refine wpOp_run rfl rfl (v := .slice (some ⟨w1.heap.size, 0, none⟩) 3 3) (w' := w1.alloc (.cells #[.int .i64 seed, .int .i64 del, .int .i64 ahe] 3)) (by simp [execOp, Act.eval, e0, e1, e2, go_sem]) (hK _ _ ((Kept.refl _ _).alloc _) ⟨_, rfl, Rw.new3 w1 seed del ahe⟩)
    · obtain rfl := Option.some.inj (show some _ = some o from ho)
      obtain ⟨g, e1, hr⟩ := hdep { on := 7, ground := .data } (by simp) _ 10 rfl rfl
      refine wpOp_call rfl rfl (f := 29) (args := #[.string { data := #[103, 97, 109, 101] }, .slice (some ⟨g, 0, none⟩) 3 3]) (w' := w1) (by simp [execOp, Act.eval, e1, go_sem]) ((Hgame.out g w1 hr).mono ?_)
      rintro e w2 ⟨rfl, hk2⟩
      exact ⟨_, rfl, hK _ _ hk2 rfl⟩
    · obtain rfl := Option.some.inj (show some _ = some o from ho)
      have e1 : a.tmps.getD 1 undef = .pointer (some ⟨b0, 0, none⟩) := hb.slot 1 (free_of (by decide +kernel))
      refine wpOp_run rfl rfl (v := .pointer (some ⟨b0, 6, none⟩)) (by simp [execOp, Act.eval, e1, go_sem]) (hK _ _ (Kept.refl _ _) rfl)
    · obtain rfl := Option.some.inj (show some _ = some o from ho)
      have e1 : a.tmps.getD 12 undef = .pointer (some ⟨b0, 6, none⟩) := hdep { on := 9, ground := .data } (by simp) _ 12 rfl rfl
      have c1 := (hk.blk HB.out.drew (by simp)).cell (i := 6) rfl
      refine wpOp_run rfl rfl (v := .int .i64 siz) (by simp [execOp, Act.eval, e1, c1, go_sem]) (hK _ _ (Kept.refl _ _) rfl)
    · obtain rfl := Option.some.inj (show some _ = some o from ho)
      have e1 : a.tmps.getD 1 undef = .pointer (some ⟨b0, 0, none⟩) := hb.slot 1 (free_of (by decide +kernel))
      refine wpOp_run rfl rfl (v := .pointer (some ⟨b0, 7, none⟩)) (by simp [execOp, Act.eval, e1, go_sem]) (hK _ _ (Kept.refl _ _) rfl)
    · obtain rfl := Option.some.inj (show some _ = some o from ho)
      have e1 : a.tmps.getD 14 undef = .pointer (some ⟨b0, 7, none⟩) := hdep { on := 11, ground := .data } (by simp) _ 14 rfl rfl
      have c1 := (hk.blk HB.out.drew (by simp)).cell (i := 7) rfl
      refine wpOp_run rfl rfl (v := .int .i64 age) (by simp [execOp, Act.eval, e1, c1, go_sem]) (hK _ _ (Kept.refl _ _) rfl)
    · obtain rfl := Option.some.inj (show some _ = some o from ho)
      have e1 : a.tmps.getD 1 undef = .pointer (some ⟨b0, 0, none⟩) := hb.slot 1 (free_of (by decide +kernel))
      refine wpOp_run rfl rfl (v := .pointer (some ⟨b0, 8, none⟩)) (by simp [execOp, Act.eval, e1, go_sem]) (hK _ _ (Kept.refl _ _) rfl)
    · obtain rfl := Option.some.inj (show some _ = some o from ho)
      have e1 : a.tmps.getD 16 undef = .pointer (some ⟨b0, 8, none⟩) := hdep { on := 13, ground := .data } (by simp) _ 16 rfl rfl
      have c1 := (hk.blk HB.out.drew (by simp)).cell (i := 8) rfl
      refine wpOp_run rfl rfl (v := .int .i64 mos) (by simp [execOp, Act.eval, e1, c1, go_sem]) (hK _ _ (Kept.refl _ _) rfl)
    · obtain rfl := Option.some.inj (show some _ = some o from ho)
      have e0 : a.tmps[13]?.getD undef = .int .i64 siz := by simpa using (show a.tmps.getD 13 undef = .int .i64 siz from hdep { on := 10, ground := .data } (by simp) _ 13 rfl rfl)
      have e1 : a.tmps[15]?.getD undef = .int .i64 age := by simpa using (show a.tmps.getD 15 undef = .int .i64 age from hdep { on := 12, ground := .data } (by simp) _ 15 rfl rfl)
      have e2 : a.tmps[17]?.getD undef = .int .i64 mos := by simpa using (show a.tmps.getD 17 undef = .int .i64 mos from hdep { on := 14, ground := .data } (by simp) _ 17 rfl rfl)
      refine wpOp_run rfl rfl (v := .slice (some ⟨w1.heap.size, 0, none⟩) 3 3) (w' := w1.alloc (.cells #[.int .i64 siz, .int .i64 age, .int .i64 mos] 3)) (by simp [execOp, Act.eval, e0, e1, e2, go_sem]) (hK _ _ ((Kept.refl _ _).alloc _) ⟨_, rfl, Rw.new3 w1 siz age mos⟩)
    · obtain rfl := Option.some.inj (show some _ = some o from ho)
      obtain ⟨g, e1, hr⟩ := hdep { on := 15, ground := .data } (by simp) _ 18 rfl rfl
      refine wpOp_call rfl rfl (f := 29) (args := #[.string { data := #[115, 101, 110, 100] }, .slice (some ⟨g, 0, none⟩) 3 3]) (w' := w1) (by simp [execOp, Act.eval, e1, go_sem]) ((Hsend.out g w1 hr).mono ?_)
      rintro e w2 ⟨rfl, hk2⟩
      exact ⟨_, rfl, hK _ _ hk2 rfl⟩
    · obtain rfl := Option.some.inj (show some _ = some o from ho)
      have e1 : a.tmps.getD 1 undef = .pointer (some ⟨b0, 0, none⟩) := hb.slot 1 (free_of (by decide +kernel))
      refine wpOp_run rfl rfl (v := .pointer (some ⟨b0, 9, none⟩)) (by simp [execOp, Act.eval, e1, go_sem]) (hK _ _ (Kept.refl _ _) rfl)
    · obtain rfl := Option.some.inj (show some _ = some o from ho)
      have e1 : a.tmps.getD 20 undef = .pointer (some ⟨b0, 9, none⟩) := hdep { on := 17, ground := .data } (by simp) _ 20 rfl rfl
      have c1 := (hk.blk HB.out.drew (by simp)).cell (i := 9) rfl
      refine wpOp_run rfl rfl (v := .int .i64 rat) (by simp [execOp, Act.eval, e1, c1, go_sem]) (hK _ _ (Kept.refl _ _) rfl)
    · obtain rfl := Option.some.inj (show some _ = some o from ho)
      have e1 : a.tmps.getD 1 undef = .pointer (some ⟨b0, 0, none⟩) := hb.slot 1 (free_of (by decide +kernel))
      refine wpOp_run rfl rfl (v := .pointer (some ⟨b0, 10, none⟩)) (by simp [execOp, Act.eval, e1, go_sem]) (hK _ _ (Kept.refl _ _) rfl)
    · obtain rfl := Option.some.inj (show some _ = some o from ho)
      have e1 : a.tmps.getD 22 undef = .pointer (some ⟨b0, 10, none⟩) := hdep { on := 19, ground := .data } (by simp) _ 22 rfl rfl
      have c1 := (hk.blk HB.out.drew (by simp)).cell (i := 10) rfl
      refine wpOp_run rfl rfl (v := .int .i64 bur) (by simp [execOp, Act.eval, e1, c1, go_sem]) (hK _ _ (Kept.refl _ _) rfl)
    · obtain rfl := Option.some.inj (show some _ = some o from ho)
      have e0 : a.tmps[21]?.getD undef = .int .i64 rat := by simpa using (show a.tmps.getD 21 undef = .int .i64 rat from hdep { on := 18, ground := .data } (by simp) _ 21 rfl rfl)
      have e1 : a.tmps[23]?.getD undef = .int .i64 bur := by simpa using (show a.tmps.getD 23 undef = .int .i64 bur from hdep { on := 20, ground := .data } (by simp) _ 23 rfl rfl)
      refine wpOp_run rfl rfl (v := .slice (some ⟨w1.heap.size, 0, none⟩) 2 2) (w' := w1.alloc (.cells #[.int .i64 rat, .int .i64 bur] 3)) (by simp [execOp, Act.eval, e0, e1, go_sem]) (hK _ _ ((Kept.refl _ _).alloc _) ⟨_, rfl, Rw.new2 w1 rat bur⟩)
    · obtain rfl := Option.some.inj (show some _ = some o from ho)
      obtain ⟨g, e1, hr⟩ := hdep { on := 21, ground := .data } (by simp) _ 24 rfl rfl
      refine wpOp_call rfl rfl (f := 29) (args := #[.string { data := #[114, 97, 116, 101] }, .slice (some ⟨g, 0, none⟩) 2 2]) (w' := w1) (by simp [execOp, Act.eval, e1, go_sem]) ((Hrate.out g w1 hr).mono ?_)
      rintro e w2 ⟨rfl, hk2⟩
      exact ⟨_, rfl, hK _ _ hk2 rfl⟩
    · obtain rfl := Option.some.inj (show some _ = some o from ho)
      have e1 : a.tmps.getD 1 undef = .pointer (some ⟨b0, 0, none⟩) := hb.slot 1 (free_of (by decide +kernel))
      refine wpOp_run rfl rfl (v := .pointer (some ⟨b0, 0, none⟩)) (by simp [execOp, Act.eval, e1, go_sem]) (hK _ _ (Kept.refl _ _) rfl)
    · obtain rfl := Option.some.inj (show some _ = some o from ho)
      have e1 : a.tmps.getD 26 undef = .pointer (some ⟨b0, 0, none⟩) := hdep { on := 23, ground := .data } (by simp) _ 26 rfl rfl
      have c1 := (hk.blk HB.out.drew (by simp)).cell (i := 0) rfl
      refine wpOp_run rfl rfl (v := .int .u32 ses) (by simp [execOp, Act.eval, e1, c1, go_sem]) (hK _ _ (Kept.refl _ _) rfl)
    · obtain rfl := Option.some.inj (show some _ = some o from ho)
      have e1 : a.tmps.getD 27 undef = .int .u32 ses := hdep { on := 24, ground := .data } (by simp) _ 27 rfl rfl
      refine wpOp_run rfl rfl (v := .int .i64 ses) (by simp [execOp, Act.eval, e1, hs2, go_sem]) (hK _ _ (Kept.refl _ _) rfl)
    · obtain rfl := Option.some.inj (show some _ = some o from ho)
      have e1 : a.tmps.getD 1 undef = .pointer (some ⟨b0, 0, none⟩) := hb.slot 1 (free_of (by decide +kernel))
      refine wpOp_run rfl rfl (v := .pointer (some ⟨b0, 1, none⟩)) (by simp [execOp, Act.eval, e1, go_sem]) (hK _ _ (Kept.refl _ _) rfl)
    · obtain rfl := Option.some.inj (show some _ = some o from ho)
      have e1 : a.tmps.getD 29 undef = .pointer (some ⟨b0, 1, none⟩) := hdep { on := 26, ground := .data } (by simp) _ 29 rfl rfl
      have c1 := (hk.blk HB.out.drew (by simp)).cell (i := 1) rfl
      refine wpOp_run rfl rfl (v := .int .u32 tok) (by simp [execOp, Act.eval, e1, c1, go_sem]) (hK _ _ (Kept.refl _ _) rfl)
    · obtain rfl := Option.some.inj (show some _ = some o from ho)
      have e1 : a.tmps.getD 30 undef = .int .u32 tok := hdep { on := 27, ground := .data } (by simp) _ 30 rfl rfl
      refine wpOp_run rfl rfl (v := .int .i64 tok) (by simp [execOp, Act.eval, e1, hs3, go_sem]) (hK _ _ (Kept.refl _ _) rfl)
    · obtain rfl := Option.some.inj (show some _ = some o from ho)
      have e0 : a.tmps[28]?.getD undef = .int .i64 ses := by simpa using (show a.tmps.getD 28 undef = .int .i64 ses from hdep { on := 25, ground := .data } (by simp) _ 28 rfl rfl)
      have e1 : a.tmps[31]?.getD undef = .int .i64 tok := by simpa using (show a.tmps.getD 31 undef = .int .i64 tok from hdep { on := 28, ground := .data } (by simp) _ 31 rfl rfl)
      refine wpOp_run rfl rfl (v := .slice (some ⟨w1.heap.size, 0, none⟩) 2 2) (w' := w1.alloc (.cells #[.int .i64 ses, .int .i64 tok] 3)) (by simp [execOp, Act.eval, e0, e1, go_sem]) (hK _ _ ((Kept.refl _ _).alloc _) ⟨_, rfl, Rw.new2 w1 ses tok⟩)
    · obtain rfl := Option.some.inj (show some _ = some o from ho)
      obtain ⟨g, e1, hr⟩ := hdep { on := 29, ground := .data } (by simp) _ 32 rfl rfl
      refine wpOp_call rfl rfl (f := 29) (args := #[.string { data := #[109, 101, 101, 116] }, .slice (some ⟨g, 0, none⟩) 2 2]) (w' := w1) (by simp [execOp, Act.eval, e1, go_sem]) ((Hmeet.out g w1 hr).mono ?_)
      rintro e w2 ⟨rfl, hk2⟩
      exact ⟨_, rfl, hK _ _ hk2 rfl⟩
    · obtain rfl := Option.some.inj (show some _ = some o from ho)
      have e0 : a.tmps[11]?.getD undef = txt (accL [103, 97, 109, 101] [seed, del, ahe]) := by simpa using (show a.tmps.getD 11 undef = txt (accL [103, 97, 109, 101] [seed, del, ahe]) from hdep { on := 8, ground := .data } (by simp) _ 11 rfl rfl)
      have e1 : a.tmps[19]?.getD undef = txt (accL [115, 101, 110, 100] [siz, age, mos]) := by simpa using (show a.tmps.getD 19 undef = txt (accL [115, 101, 110, 100] [siz, age, mos]) from hdep { on := 16, ground := .data } (by simp) _ 19 rfl rfl)
      have e2 : a.tmps[25]?.getD undef = txt (accL [114, 97, 116, 101] [rat, bur]) := by simpa using (show a.tmps.getD 25 undef = txt (accL [114, 97, 116, 101] [rat, bur]) from hdep { on := 22, ground := .data } (by simp) _ 25 rfl rfl)
      have e3 : a.tmps[33]?.getD undef = txt (accL [109, 101, 101, 116] [ses, tok]) := by simpa using (show a.tmps.getD 33 undef = txt (accL [109, 101, 101, 116] [ses, tok]) from hdep { on := 30, ground := .data } (by simp) _ 33 rfl rfl)
      refine wpOp_run rfl rfl (v := .agg #[txt (accL [103, 97, 109, 101] [seed, del, ahe]), txt (accL [115, 101, 110, 100] [siz, age, mos]), txt (accL [114, 97, 116, 101] [rat, bur]), txt (accL [109, 101, 101, 116] [ses, tok])]) (by simp [execOp, Act.eval, e0, e1, e2, e3, go_sem]) (hK _ _ (Kept.refl _ _) rfl)
  · intro o ho a w1 hk hb hf
    obtain rfl := Option.some.inj (show some _ = some o from ho)
    have e1 : a.tmps.getD 2 undef = .pointer (some ⟨b0 + 1, 0, none⟩) := hb.slot 2 (free_of (by decide +kernel))
    have e2 : a.tmps.getD 34 undef = .agg #[txt (accL [103, 97, 109, 101] [seed, del, ahe]), txt (accL [115, 101, 110, 100] [siz, age, mos]), txt (accL [114, 97, 116, 101] [rat, bur]), txt (accL [109, 101, 101, 116] [ses, tok])] := hf 31 _ 34 (by omega) rfl rfl
    refine wpOp_store rfl rfl 91 (.tmp 2) (.tmp 34) rfl (b0 + 1) e1 91 _ [txt (accL [103, 97, 109, 101] [seed, del, ahe]), txt (accL [115, 101, 110, 100] [siz, age, mos]), txt (accL [114, 97, 116, 101] [rat, bur]), txt (accL [109, 101, 101, 116] [ses, tok])] e2 (hk.blk HB1.out.drew (by simp)) rfl (by kernel_rfl) (by intro v hv; simp at hv; rcases hv with rfl | rfl | rfl | rfl <;> rfl) ?_
    intro w2 hb2 hk2
    have HB2 := hx hb2
    have HK2 := hx ((HK0.out.drew.trans0 hk).trans hk2 (ds := []) (fun _ h => h) (fun x h => by simp at h; subst h; exact .inr (by have := HB0.out; omega)))
    have HE := hx e1
    have hbd : a.defers = [] := hb.defers
    clear hb hf hk hk2 hb2 e1 e2
    have HD := hx hbd
    clear hbd ho
    go_wp2_with fail
    exact bodyPost_ret (ret_blk rfl _ (b0 + 1) _ _ _ HE.out HB2.out Tryd.underlying91 rfl (by kernel_rfl)) HD.out ⟨rfl, HK2.out⟩
end Go.Proofs.YtdfbofkdlgfblaaDoor
