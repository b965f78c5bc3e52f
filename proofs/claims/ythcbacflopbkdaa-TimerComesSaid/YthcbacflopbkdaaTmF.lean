/- The timer's Next: the least of its entries. -/
import Derived.Test.YthcbacflopbkdaaTmE
import Derived.Deep.RegionHeld3
import Derived.Deep.DeepCutAuto
namespace Go.Proofs.Ythcbacflopbkdaa
open Go Go.RowKit Go.Shelf
/-- The least of the first ones. -/
def minE (m : En) : List En → En
  | [] => m
  | x :: l => minE (if cfE x m < 0 then x else m) l
theorem minE_snoc (m x : En) (l : List En) : minE m (l ++ [x]) = if cfE x (minE m l) < 0 then x else minE m l := by
  induction l generalizing m with
  | nil => rfl
  | cons y l ih => exact ih _
theorem minE_mem (m : En) (l : List En) : minE m l = m ∨ minE m l ∈ l := by
  induction l generalizing m with
  | nil => exact .inl rfl
  | cons y l ih =>
    unfold minE
    split
    · rcases ih y with h | h
      · exact .inr (by rw [h]; simp)
      · exact .inr (by simp [h])
    · rcases ih m with h | h
      · exact .inl h
      · exact .inr (by simp [h])
theorem minE_le (m : En) (l : List En) : (∀ x, x ∈ l → ¬ ltE x (minE m l)) ∧ ¬ ltE m (minE m l) := by
  induction l generalizing m with
  | nil => exact ⟨by simp, by unfold minE ltE; omega⟩
  | cons y l ih =>
    unfold minE
    split
    · rename_i h
      rw [cfE_lt] at h
      obtain ⟨h1, h2⟩ := ih y
      refine ⟨fun x hx => ?_, ?_⟩
      · rcases List.mem_cons.1 hx with rfl | hx
        · exact h2
        · exact h1 x hx
      · unfold ltE at *; omega
    · rename_i h
      rw [cfE_lt] at h
      obtain ⟨h1, h2⟩ := ih m
      refine ⟨fun x hx => ?_, h2⟩
      rcases List.mem_cons.1 hx with rfl | hx
      · unfold ltE at *; omega
      · exact h1 x hx
/-- It is the first in order. -/
theorem min_head {x0 y : En} {h0 s : List En} (hp : (y :: s).Perm (x0 :: h0)) (hs : (y :: s).Pairwise ltE) : minE x0 h0 = y := by
  have hm : minE x0 h0 ∈ y :: s := by
    rw [hp.mem_iff]
    rcases minE_mem x0 h0 with h | h
    · rw [h]; simp
    · simp [h]
  have hy : ¬ ltE y (minE x0 h0) := by
    have : y ∈ x0 :: h0 := hp.mem_iff.1 (by simp)
    rcases List.mem_cons.1 this with rfl | h
    · exact (minE_le _ _).2
    · exact (minE_le _ _).1 y h
  rcases List.mem_cons.1 hm with h | h
  · exact h
  · exact absurd ((List.pairwise_cons.1 hs).1 _ h) hy
theorem grow_kept (w : World) (q : Nat) (os : Array Obj) : Kept [] w (Go.Sort.grow (w.drewN q) os) :=
  ⟨rfl, rfl, rfl, by simp [Go.Sort.grow, World.drewN], fun k hk _ => by
    show (w.heap ++ os)[k]? = _
    rw [Array.getElem?_append_left hk]⟩
theorem order_k (x y : En) (w : World) : Calls Try.prog 25 #[.agg #[.int  .i64 x.key, .int .i64 x.due, .int .i64 x.no], .agg #[.int  .i64 y.key, .int .i64 y.due, .int .i64 y.no]] w fun e w' => e = .returned (.int .i64 (cfE x y)) ∧ Kept [] w w' :=
  (order_any x y w).mono fun _ _ ⟨h1, q, os, h2⟩ => ⟨h1, by rw [h2]; exact grow_kept w q os⟩
theorem kept_own {bs : List Nat} {w A C : World} (h : Kept [] w A) (k : Kept bs A C) (hb : ∀ x, x ∈ bs → w.heap.size ≤ x) : Kept [] w C :=
  h.trans k (fun _ h => h) (fun x hx => .inr (hb x hx))
theorem infoEn3 : (Try.prog.info? 62).map (·.size) = some 3 := by kernel_rfl
theorem ret_en {P : Program} {w : World} {fn : Func} {p : Tmp} {ty : TypeId} (h : fn.results = #[.cell p ty]) (tmps : Array Value) (g : Nat) (T : TypeId) (x : En) (d : TypeDesc)
    (hp : tmps.getD p undef = .pointer (some ⟨g, 0, none⟩)) (hb : Blk w g (enc3 x) T)
    (hu : P.underlying ty = some d) (hd : (match d with | .struct _ | .array _ _ => true | _ => false) = true) (hi : (P.info? ty).map (·.size) = some 3) :
    (results fn tmps).run P w = .ok (.agg #[.int  .i64 x.key, .int .i64 x.due, .int .i64 x.no]) w :=
  ret_blk h tmps g T (enc3 x) d hp hb hu hd hi
theorem getD_in {h : List En} {i : Nat} (hi : i < h.length) : h[i]! = h.getD i en0 := by simp [List.getD, hi]
theorem take_succ_en {h : List En} {i : Nat} (hi : i < h.length) : h.take (i + 1) = h.take i ++ [h.getD i en0] := by
  rw [List.take_add_one, List.getElem?_eq_getElem hi]; simp [List.getD, hi]
set_option maxRecDepth 100000 in
set_option maxHeartbeats 6400000 in
theorem min_any (g n c : Nat) (h : List En) (w : World) (ho : w.ownsRow 0 62 3 (.slice (some ⟨g, 0, none⟩) n c) n (cel h)) (hn : h.length = n) (h0 : 0 < n) (hb : n ≤ 1000000) (M : En) (hM : minE (h.getD 0 en0) (h.drop 1) = M) :
    Calls Try.prog 40 #[.slice (some ⟨g, 0, none⟩) n c, .func (.func 25) #[] #[]] w fun e w' => e = .returned (.agg #[.int  .i64 M.key, .int .i64 M.due, .int .i64 M.no]) ∧ Kept [] w w' := by
  have HM := hx hM
  clear hM
  have hc := cel_cells ho
  have HC := hx (fun i (hi : i < n) => show w.cell? ⟨g, i * 3, none⟩ = some (.int  .i64 (h.getD i en0).key) ∧ w.cell? ⟨g, i * 3 + 1, none⟩ = some (.int .i64 (h.getD i en0).due) ∧ w.cell? ⟨g, i * 3 + 2, none⟩ = some (.int .i64 (h.getD i en0).no) by
    rw [← getD_in (by omega)]
    have e0 := hc i (by omega) 0 _ rfl
    have e1 := hc i (by omega) 1 _ rfl
    have e2 := hc i (by omega) 2 _ rfl
    rw [Nat.zero_add] at e0 e1 e2
    exact ⟨e0, e1, e2⟩)
  clear hc ho
  have HN := hx hn
  have hz := zeroEn
  obtain ⟨a0, a1, a2⟩ := HC.out 0 h0
  simp only [Nat.zero_mul, Nat.zero_add] at a0 a1 a2
  have KZ := (Kept.refl [] w).alloc (.cells #[.int  .i64 0, .int .i64 0, .int .i64 0] 62)
  have a0 := kept_cell KZ a0
  have a1 := kept_cell KZ a1
  have a2 := kept_cell KZ a2
  clear KZ
  have hc0 : (1 : Int) ≤ (n : Int) := by omega
  have hc1 : (0 : Int) < (n : Int) := by omega
  have HX00 := hx (show h.getD 0 en0 = h.getD 0 en0 from rfl)
  have HX0 := hx (show minE (h.getD 0 en0) ((h.drop 1).take 0) = h.getD 0 en0 by rw [List.take_zero]; rfl)
  generalize hy0 : h.getD 0 en0 = y0 at *
  have HY0 := hx hy0
  clear hy0 HX00
  have B4 := hx ((Blk.new w [.int  .i64 0, .int .i64 0, .int .i64 0] 62).alloc (.cells #[.int  .i64 y0.key, .int .i64 y0.due, .int .i64 y0.no] 62))
  have B5 := hx (show Blk ((w.alloc (.cells #[.int  .i64 0, .int .i64 0, .int .i64 0] 62)).alloc (.cells #[.int  .i64 y0.key, .int .i64 y0.due, .int .i64 y0.no] 62)) (w.heap.size + 1) (enc3 y0) 62 by
    have h := Blk.new (w.alloc (.cells #[.int  .i64 0, .int .i64 0, .int .i64 0] 62)) (enc3 y0) 62
    rw [World.size_alloc] at h
    exact h)
  have K5 := hx (((Kept.refl [] w).alloc (.cells #[.int  .i64 0, .int .i64 0, .int .i64 0] 62)).alloc (.cells #[.int  .i64 y0.key, .int .i64 y0.due, .int .i64 y0.no] 62))
  go_enter Try.func40, Try.ntmps40
  go_wp2_with fail
  generalize (w.alloc (.cells #[.int  .i64 0, .int .i64 0, .int .i64 0] 62)).alloc (.cells #[.int  .i64 y0.key, .int .i64 y0.due, .int .i64 y0.no] 62) = W0 at *
  clear hz a0 a1 a2 hc0 hc1
  go_loopw [6] (fun iv wr => ∃ (i : Nat), i < n + 1 ∧ 1 ≤ i ∧ iv = .int .i64 i ∧ Blk wr w.heap.size [.int  .i64 0, .int .i64 0, .int .i64 0] 62 ∧ Blk wr (w.heap.size + 1) (enc3 (minE y0 ((h.drop 1).take (i - 1)))) 62 ∧ Kept [] w wr) (fun iv _ => n - (intOf iv).toNat)
  case atStart => exact ⟨1, by omega, by omega, rfl, B4.out, by rw [HX0.out]; exact B5.out, K5.out⟩
  case round =>
    clear B4 B5 K5 HX0
    obtain ⟨i, hi, hi1, rfl, hb4, hb5, hk⟩ := hrel
    have HB4 := hx hb4
    have HB5 := hx hb5
    have HK := hx hk
    clear hb4 hb5 hk
    by_cases hlt : i < n
    · have hil : (i : Int) < (n : Int) := by omega
      have hi0 : (0 : Int) ≤ (i : Int) := by omega
      have HSN := hx (show minE y0 ((h.drop 1).take (i + 1 - 1)) = if cfE (h.getD i en0) (minE y0 ((h.drop 1).take (i - 1))) < 0 then h.getD i en0 else minE y0 ((h.drop 1).take (i - 1)) by
        obtain ⟨j, rfl⟩ : ∃ j, i = j + 1 := ⟨i - 1, by omega⟩
        have e : (h.drop 1).take (j + 1) = (h.drop 1).take j ++ [h.getD (j + 1) en0] := by
          have hl : j < (h.drop 1).length := by rw [List.length_drop]; omega
          rw [take_succ_en hl]
          congr 2
          simp [List.getD]
        rw [show j + 1 + 1 - 1 = j + 1 by omega, show j + 1 - 1 = j by omega, e, minE_snoc])
      obtain ⟨r0, r1, r2⟩ := HC.out i hlt
      have r0 := kept_cell HK.out r0
      have r1 := kept_cell HK.out r1
      have r2 := kept_cell HK.out r2
      generalize h.getD i en0 = x at *
      generalize minE y0 ((h.drop 1).take (i - 1)) = m at *
      have m0 := HB5.out.cell (i := 0) rfl
      have m1 := HB5.out.cell (i := 1) rfl
      have m2 := HB5.out.cell (i := 2) rfl
      have HS := hx (show ∀ w3 w4 : World, ( w3.cell? ⟨g, i * 3, none⟩ = some (.int  .i64 x.key) ∧ w3.cell? ⟨g, i * 3 + 1, none⟩ = some (.int .i64 x.due) ∧ w3.cell? ⟨g, i * 3 + 2, none⟩ = some (.int .i64 x.no) ∧ w3.cell? ⟨w.heap.size + 1, 0, none⟩ = some (.int  .i64 m.key) ∧ w3.cell? ⟨w.heap.size + 1, 1, none⟩ = some (.int .i64 m.due) ∧ w3.cell? ⟨w.heap.size + 1, 2, none⟩ = some (.int .i64 m.no) ∧ Kept [] wr w3) → Kept [] w3 w4 → ( w4.cell? ⟨g, i * 3, none⟩ = some (.int  .i64 x.key) ∧ w4.cell? ⟨g, i * 3 + 1, none⟩ = some (.int .i64 x.due) ∧ w4.cell? ⟨g, i * 3 + 2, none⟩ = some (.int .i64 x.no) ∧ w4.cell? ⟨w.heap.size + 1, 0, none⟩ = some (.int  .i64 m.key) ∧ w4.cell? ⟨w.heap.size + 1, 1, none⟩ = some (.int .i64 m.due) ∧ w4.cell? ⟨w.heap.size + 1, 2, none⟩ = some (.int .i64 m.no) ∧ Kept [] wr w4) from fun w3 w4 ⟨h1, h2, h3, h4, h5, h6, h7⟩ hk => ⟨kept_cell hk h1, kept_cell hk h2, kept_cell hk h3, kept_cell hk h4, kept_cell hk h5, kept_cell hk h6, h7.trans0 hk⟩)
      go_upto_region 7 with fail
      go_cut [27] (fun s27 wx => s27 = .bool (decide (cfE x m < 0)) ∧ Kept [] wr wx)
      case first =>
        have hSS : ( wr.cell? ⟨g, i * 3, none⟩ = some (.int  .i64 x.key) ∧ wr.cell? ⟨g, i * 3 + 1, none⟩ = some (.int .i64 x.due) ∧ wr.cell? ⟨g, i * 3 + 2, none⟩ = some (.int .i64 x.no) ∧ wr.cell? ⟨w.heap.size + 1, 0, none⟩ = some (.int  .i64 m.key) ∧ wr.cell? ⟨w.heap.size + 1, 1, none⟩ = some (.int .i64 m.due) ∧ wr.cell? ⟨w.heap.size + 1, 2, none⟩ = some (.int .i64 m.no) ∧ Kept [] wr wr) := ⟨r0, r1, r2, m0, m1, m2, Kept.refl _ _⟩
        go_region_held3 (fun w3 => w3.cell? ⟨g, i * 3, none⟩ = some (.int  .i64 x.key) ∧ w3.cell? ⟨g, i * 3 + 1, none⟩ = some (.int .i64 x.due) ∧ w3.cell? ⟨g, i * 3 + 2, none⟩ = some (.int .i64 x.no) ∧ w3.cell? ⟨w.heap.size + 1, 0, none⟩ = some (.int  .i64 m.key) ∧ w3.cell? ⟨w.heap.size + 1, 1, none⟩ = some (.int .i64 m.due) ∧ w3.cell? ⟨w.heap.size + 1, 2, none⟩ = some (.int .i64 m.no) ∧ Kept [] wr w3) (first | exact hSS | exact HS.out _ _ hSS ((Kept.refl _ _).drew) | assumption)
          (first | (go_at_call 25; refine (order_k x m _).mono ?_; rintro e w' ⟨rfl, hk4⟩; have hSS := HS.out _ _ ‹_› hk4))
        all_goals (go_wp2_with fail)
        all_goals (go_meet; exact ⟨rfl, by first | exact hSS.2.2.2.2.2.2 | assumption⟩)
      case rest =>
        obtain ⟨rfl, hkx⟩ := hcut
        have HB4' := hx (hkx.blk HB4.out (by simp))
        have HB5' := hx (hkx.blk HB5.out (by simp))
        have HK' := hx (HK.out.trans0 hkx)
        have r0' := kept_cell hkx r0
        have r1' := kept_cell hkx r1
        have r2' := kept_cell hkx r2
        clear hkx r0 r1 r2 m0 m1 m2 HS HB4 HB5 HK
        by_cases hc : cfE x m < 0
        · have hcd := decide_eq_true hc
          have HE := hx (show minE y0 ((h.drop 1).take (i + 1 - 1)) = x by rw [HSN.out, if_pos hc])
          rw [hcd]
          clear hc hcd
          go_wp2_with (refine store_blk rfl 62 (.tmp 5) (.tmp 31) rfl (w.heap.size + 1) rfl 62 _ (enc3 x) rfl HB5'.out rfl infoEn3 (one_enc3 x) ?_; intro w9 hb9 hk9)
          have H9 := hx (And.intro (hk9.blk HB4'.out (by simp)) (And.intro hb9 (kept_own HK'.out hk9 (fun x hx => by simp at hx; omega))))
          clear hb9 hk9
          go_wp2
          go_roundw
          case rel => exact ⟨i + 1, by omega, by omega, by go_num, H9.out.1, by rw [HE.out]; exact H9.out.2.1, H9.out.2.2⟩
          case measure => simp [intOf] <;> omega
        · have hcd := decide_eq_false hc
          have HE := hx (show minE y0 ((h.drop 1).take (i + 1 - 1)) = m by rw [HSN.out, if_neg hc])
          rw [hcd]
          clear hc hcd
          go_wp2
          go_roundw
          case rel => exact ⟨i + 1, by omega, by omega, by go_num, HB4'.out, by rw [HE.out]; exact HB5'.out, HK'.out⟩
          case measure => simp [intOf] <;> omega
    · obtain rfl : i = n := by omega
      have HE := hx (show (h.drop 1).take (i - 1) = h.drop 1 by rw [List.take_of_length_le (by rw [List.length_drop]; have := HN.out; omega)])
      rw [HE.out, HM.out] at HB5
      have hil : ¬ (i : Int) < (i : Int) := by omega
      clear HE HM
      have m0 := HB5.out.cell (i := 0) rfl
      have m1 := HB5.out.cell (i := 1) rfl
      have m2 := HB5.out.cell (i := 2) rfl
      go_wp2_with (refine store_blk rfl 62 (.tmp 4) (.tmp 32) rfl w.heap.size rfl 62 _ (enc3 M) rfl HB4.out rfl infoEn3 (one_enc3 M) ?_; intro w9 hb9 hk9)
      refine bodyPost_ret (ret_en rfl _ w.heap.size _ M _ rfl hb9 Try.underlying62 rfl infoEn3) rfl ⟨rfl, kept_own HK.out hk9 (fun x hx => by simp at hx; omega)⟩
theorem fieldEn (a b c : Int) (w : World) : (Instr.field 62 (.agg #[.int  .i64 a, .int .i64 b, .int .i64 c]) 1).run Try.prog w = .ok (.int .i64 b) w := by kernel_rfl
def nextV (now : Int) : List En → Int × Bool
  | [] => (0, false)
  | x :: _ => (x.due - now, true)
set_option maxRecDepth 100000 in
set_option maxHeartbeats 3200000 in
theorem tnext_any (q : Nat) (v : Value) (room now no : Int) (h s : List En) (w : World) (hs : Ts w q v room now no h) (hp : Tp h s now no) (hb : h.length ≤ 1000000) :
    Calls Try.prog 31 #[.pointer (some ⟨q, 0, none⟩)] w fun e w' => e = .returned (.tuple #[.int .i64 (nextV now s).1, .bool (nextV now s).2]) ∧ Kept [] w w' := by
  have c3 := hs.hq.cell (i := 3) rfl
  have c1 := hs.hq.cell (i := 1) rfl
  have K := hx (Kept.refl [] w)
  cases s with
  | nil =>
    obtain rfl : h = [] := List.eq_nil_of_length_eq_zero hp.len.symm
    obtain ⟨a, c, rfl⟩ := own_slice hs.own
    clear hs hp
    go_enter Try.func31, Try.ntmps31
    go_wp2
    go_ret2
    exact ⟨rfl, K.out⟩
  | cons y s =>
    have hl : 0 < h.length := by have := hp.len; simp at this; omega
    have hown := hs.own
    obtain ⟨_, ⟨_, h0⟩ | ⟨g, cap, cur, rfl, _⟩⟩ := hown
    · omega
    have hy := hp.due y (by simp)
    have hn0 := hp.now0
    have hn1 := hp.now1
    have hsub : IntKind.i64.wrap (y.due - now) = y.due - now := IntWalk.i64_in _ (by omega)
    have hm : minE (h.getD 0 en0) (h.drop 1) = y := by
      cases h with
      | nil => simp at hl
      | cons x0 h0 => exact min_head hp.perm hp.sorted
    have HC := hx (fun w1 (hk : Kept [] w w1) => min_any g h.length cap h w1 (hs.kept hk).own rfl hl hb y hm)
    have hne : ((h.length : Int) == 0) = false := by rw [beq_eq_false_iff_ne]; omega
    have hfi := fun w1 => fieldEn y.key y.due y.no w1
    clear hp hm hy hs hn0 hn1
    have HS := hx (show ∀ w3 w4 : World, (w3.cell? ⟨q, 3, none⟩ = some (.slice (some ⟨g, 0, none⟩) h.length cap) ∧ w3.cell? ⟨q, 1, none⟩ = some (.int .i64 now) ∧ Kept [] w w3) → Kept [] w3 w4 → (w4.cell? ⟨q, 3, none⟩ = some (.slice (some ⟨g, 0, none⟩) h.length cap) ∧ w4.cell? ⟨q, 1, none⟩ = some (.int .i64 now) ∧ Kept [] w w4) from fun w3 w4 ⟨h1, h2, h3⟩ hk => ⟨kept_cell hk h1, kept_cell hk h2, h3.trans0 hk⟩)
    go_enter Try.func31, Try.ntmps31
    go_wp2_with fail
    have hSS : w.cell? ⟨q, 3, none⟩ = some (.slice (some ⟨g, 0, none⟩) h.length cap) ∧ w.cell? ⟨q, 1, none⟩ = some (.int .i64 now) ∧ Kept [] w w := ⟨c3, c1, K.out⟩
    go_region_held3 (fun w3 => w3.cell? ⟨q, 3, none⟩ = some (.slice (some ⟨g, 0, none⟩) h.length cap) ∧ w3.cell? ⟨q, 1, none⟩ = some (.int .i64 now) ∧ Kept [] w w3) (first | exact hSS | exact HS.out _ _ hSS ((Kept.refl _ _).drew) | assumption)
      (first | (go_at_call 40; refine (HC.out _ (by first | exact (Kept.refl _ _).drew | exact hSS.2.2 | exact (‹_ ∧ _ ∧ Kept [] w _›).2.2)).mono ?_; rintro e w' ⟨rfl, hk4⟩; have hSS := HS.out _ _ ‹_› hk4))
    all_goals
      go_wp2
      go_ret2
      exact ⟨rfl, hSS.2.2⟩
end Go.Proofs.Ythcbacflopbkdaa
