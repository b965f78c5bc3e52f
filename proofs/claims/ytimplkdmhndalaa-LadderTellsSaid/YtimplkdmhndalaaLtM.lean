/- The document's Ranks. -/
import Derived.Test.YtimplkdmhndalaaLtL
import Derived.ArgAppend
namespace Go.Proofs.Ytimplkdmhndalaa
open Go Go.RowKit Go.Shelf
theorem insP_at {x : Ply} : ∀ {out : List Ply} {k : Nat}, k ≤ out.length → (∀ j, j < k → ahP (out.getD j pl0) x = true) → (k = out.length ∨ ahP (out.getD k pl0) x = false) → insP x out = out.take k ++ x :: out.drop k
  | [], 0, _, _, _ => rfl
  | [], k + 1, h, _, _ => by simp at h
  | y :: l, 0, _, _, h => by
    rcases h with h | h
    · simp at h
    · have h2 : ahP y x = false := by simpa using h
      rw [insP, h2]
      rfl
  | y :: l, k + 1, hk, hb, h => by
    have h0 : ahP y x = true := by simpa using hb 0 (by omega)
    rw [insP, if_pos h0, insP_at (by simpa using hk) (fun j hj => by simpa using hb (j + 1) (by omega)) (by simpa using h)]
    rfl
theorem ranksP_snoc : ∀ (l out : List Ply) (x : Ply), ranksP out (l ++ [x]) = insP x (ranksP out l)
  | [], out, x => rfl
  | y :: l, out, x => by rw [List.cons_append, ranksP, ranksP, ranksP_snoc l]
theorem cel_append (a b : List Ply) : cel (a ++ b) = cel a ++ cel b := by simp [cel]
theorem elemR : Try.prog.elem 29 = 44 := by kernel_rfl
theorem undR : Try.prog.underlying 29 = some (.slice (Try.prog.elem 29)) := by rw [elemR]; exact Try.underlying29
theorem szR (w : World) : (sizeOf 44).run Try.prog w = .ok 5 w := by kernel_rfl
theorem r5_drop {w : World} {a : Option Addr} {l : List Ply} {c k : Nat} (h : R5 w a l) (hk : k ≤ l.length) (hc : l.length ≤ c) (h0 : a = none → c = 0) :
    ∃ a2, (∀ X, (Instr.slice 29 (.slice a l.length c) (some (.int .i64 (k : Int))) none none).run Try.prog X = .ok (.slice a2 (l.length - k) (c - k)) X) ∧ (∀ W, R5 W a l → R5 W a2 (l.drop k)) ∧ (a2 = none → c - k = 0) := by
  refine ⟨if c = k then a else a.map (·.add (k * 5)), fun X => ?_, fun W hW => ⟨fun i hi => ?_⟩, fun hn => ?_⟩
  · rw [run_slice_l (P := Try.prog) X 29 a l.length c undR .i64 (k : Int) (by omega) (by omega), elemR, szR]
    simp only [Result.andThen_ok, sliced, Int.toNat_natCast]
  · rw [List.length_drop] at hi
    obtain ⟨g, o, rfl, hg, hcl⟩ := hW.at_ (i + k) (by omega)
    refine ⟨g, o + k * 5, ?_, hg, fun j u hu => ?_⟩
    · rw [if_neg (by omega), Option.map_some, Addr.add_mid]
    · have h2 := hcl j u (by
        rw [List.getD_eq_getElem?_getD, List.getElem?_drop, Nat.add_comm k i] at hu
        rw [List.getD_eq_getElem?_getD]
        exact hu)
      rw [show o + k * 5 + i * 5 + j = o + (i + k) * 5 + j by omega]
      exact h2
  · split at hn
    · omega
    · cases a with
      | none => rw [h0 rfl]; omega
      | some _ => simp at hn
theorem slice_cap (a : Option Addr) (n c k : Nat) (ha : a = none ∨ ∃ g o, a = some ⟨g, o, none⟩) (hk : k ≤ c) (X : World) : (Instr.slice 29 (.slice a n c) none (some (.int .i64 (k : Int))) (some (.int .i64 (k : Int)))).run Try.prog X = .ok (.slice a k k) X := by
  rw [run_slice_hm (P := Try.prog) X 29 a n c undR .i64 .i64 (k : Int) (k : Int) (by omega) (by omega) (by omega), elemR, szR]
  simp only [Result.andThen_ok, sliced, Int.toNat_natCast, Nat.zero_mul, Nat.sub_zero]
  rcases ha with rfl | ⟨g, o, rfl⟩
  · simp
  · rw [Option.map_some, Addr.add_mid, Nat.add_zero, ite_self]
theorem take_r5 {w : World} {a : Option Addr} {l : List Ply} (h : R5 w a l) (k : Nat) : R5 w a (l.take k) :=
  ⟨fun i hi => by
    rw [List.length_take] at hi
    obtain ⟨g, o, ha, hg, hc⟩ := h.at_ i (by omega)
    refine ⟨g, o, ha, hg, fun j u hu => hc j u ?_⟩
    rw [List.getD_eq_getElem?_getD, List.getElem?_take_of_lt (by omega)] at hu
    rw [List.getD_eq_getElem?_getD]
    exact hu⟩
theorem own_none0 {w : World} {base : Nat} {T : TypeId} {a : Option Addr} {n c m : Nat} {xs : List Value} (h : w.ownsRow base T 5 (.slice a n c) m xs) : (a = none → c = 0) ∧ (a = none ∨ ∃ g o, a = some ⟨g, o, none⟩) := by
  rcases h.2 with ⟨h1, _⟩ | ⟨g, cap, cur, he, _⟩
  · simp only [Value.slice.injEq] at h1
    exact ⟨fun _ => h1.2.2, .inl h1.1⟩
  · simp only [Value.slice.injEq] at he
    refine ⟨fun hn => ?_, .inr ⟨g, 0, he.1⟩⟩
    rw [he.1] at hn
    cases hn
theorem step_grow {P : Program} {w : World} {ops : Array Oper} {o : Oper} {a : Act} {K : Act → World → Prop} {Q : Exit → Act → World → Prop} {E : Prop} (hgd : o.guard = none) (s x : Operand) (t : TypeId)
    (ho : o.op = .call { callee := .builtin .append, args := #[s, x], argTypes := #[t, t] })
    (e : TypeId) (z : Value) (size bytes : Nat) (hinfo : (P.info? e).map (fun i => (i.zero, i.size, i.bytes)) = some (some z, size, bytes)) (ht : P.underlying t = some (.slice e))
    (hzs : z.cells.size = size) (hsz : 0 < size)
    (ao : Option Addr) (n : Nat) (olds : List Value) (hs : a.eval s = .slice ao n n) (hnone : ao = none → n = 0) (hlo : olds.length = n * size) (holds : ∀ b, ao = some b → ∀ j u, olds[j]? = some u → w.cell? (b.add j) = some u)
    (ad : Addr) (c : Nat) (news : List Value) (hx : a.eval x = .slice (some ad) 1 c) (hn : news.length = 1 * size) (hc : ∀ j u, news[j]? = some u → w.cell? (ad.add j) = some u) (h1c : ∀ u ∈ news, u.oneCell' = true)
    (b1 : n + 1 ≤ maxLen) (b2 : (n + 1) * bytes ≤ 140737488355328)
    (h : ∀ v' w', w'.ownsRow w.heap.size e size v' (n + 1) (olds ++ news) → w.grownBy w' none → K (a.put o.dst v') w') : if Region.wanted o (yielded ops a.tmps) = true then Oper.wp P o a w K Q else E := by
  have hw : Region.wanted o (yielded ops a.tmps) = true := by simp [Region.wanted, hgd]
  rw [if_pos hw]
  obtain ⟨i, hi, hz0, hz1, hz2⟩ := info_parts hinfo
  cases ao with
  | some b =>
    obtain ⟨v', w', hrun, r1, r2⟩ := run_append_arg_grows (P := P) w t o.type e i z size bytes ht hi hz0 hz1 hz2 hzs hsz b n n olds hlo (holds b rfl) ad 1 c news hn hc (by omega) b1 b2
    unfold Oper.wp execOp
    simp only [ho, resolve, invoke, builtin, Sem.run_bind, Sem.run_pure, Result.andThen_ok, List.map_toArray, List.map_cons, List.map_nil, hs, hx, hrun]
    exact h v' w' r1 r2
  | none =>
    obtain rfl : n = 0 := hnone rfl
    obtain rfl : olds = [] := List.eq_nil_of_length_eq_zero (by simpa using hlo)
    obtain ⟨v', w', hrun, r1, r2, _⟩ := run_append_own (P := P) w w.heap.size t o.type e i z size bytes ht hi hz0 hz1 hz2 hzs hsz (.slice none 0 0) 0 [] (World.ownsRow_nil w _ e size) ad 1 c news hn hc h1c b1 b2 (Nat.le_refl _)
    unfold Oper.wp execOp
    simp only [ho, resolve, invoke, builtin, Sem.run_bind, Sem.run_pure, Result.andThen_ok, List.map_toArray, List.map_cons, List.map_nil, hs, hx, hrun]
    exact h v' w' r1 r2
set_option maxRecDepth 100000 in
set_option maxHeartbeats 12800000 in
theorem rranks_any (a : Option Addr) (c : Nat) (l : List Ply) (w : World) (h : R5 w a l) (hb : l.length ≤ 32) :
    Calls Try.prog 17 #[.slice a l.length c] w fun e w' => ∃ a' c', e = .returned (.slice a' l.length c') ∧ l.length ≤ c' ∧ R5 w' a' (ranksP [] l) ∧ Kept [] w w' := by
  have HR := hx h
  generalize hm : l.length = n at *
  have HM := hx hm
  clear h hm
  go_enter Try.func17, Try.ntmps17
  go_wp2_with fail
  go_loopw [3, 4] (fun ov iv wr => ∃ (i : Nat) (v : Value), ov = v ∧ iv = .int .i64 (i : Int) ∧ i ≤ n ∧ wr.ownsRow w.heap.size 44 5 v i (cel (ranksP [] (l.take i))) ∧ Kept [] w wr) (fun _ iv _ => n - (intOf iv).toNat)
  case atStart => exact ⟨0, _, rfl, rfl, Nat.zero_le _, World.ownsRow_nil _ _ _ 5, Kept.refl _ _⟩
  case round =>
    obtain ⟨i, v, rfl, rfl, hi, hN, hk⟩ := hrel
    have HN := hx hN
    have HK := hx hk
    clear hN hk
    by_cases hlt : i < n
    · have hil : (i : Int) < (n : Int) := by omega
      have hlm : i < l.length := by have := HM.out; omega
      obtain ⟨hnl, va, vc, rfl, hvc, hr5⟩ := own_r5 HN.out
      obtain ⟨gl, ol, rfl⟩ := HR.out.addr (by omega)
      have htk : l.take (i + 1) = l.take i ++ [l.getD i pl0] := by rw [List.take_add_one, List.getElem?_eq_getElem hlm]; simp [List.getD, hlm]
      have HTK := hx htk
      obtain ⟨X, hX⟩ : ∃ X, l.getD i pl0 = X := ⟨_, rfl⟩
      obtain ⟨out, hout⟩ : ∃ out, ranksP [] (l.take i) = out := ⟨_, rfl⟩
      rw [hX] at HTK
      rw [hout] at HN hnl hr5
      have HOUT := hx hout
      have HR5 := hx hr5
      have HVC := hx hvc
      have HNL := hx hnl
      have HX := hx hX
      have HLT := hx (And.intro hlt hlm)
      have hi32 : i < 32 := by omega
      clear htk hX hout hr5 hvc hlm hlt hi hnl
      go_wp2_with fail
      obtain ⟨W2, hW2⟩ : ∃ W, W = wr := ⟨_, rfl⟩
      subst hW2
      go_loopw [5] (fun kv wk => ∃ k : Nat, kv = .int .i64 (k : Int) ∧ k ≤ i ∧ Hx (∀ j, j < k → ahP (out.getD j pl0) X = true) ∧ Kept [] W2 wk) (fun kv _ => i - (intOf kv).toNat)
      case atStart => exact ⟨0, rfl, Nat.zero_le _, ⟨fun j hj => by omega⟩, Kept.refl _ _⟩
      case round =>
        obtain ⟨k, rfl, hk, hj, hkk⟩ := hrel
        have HKK := hx hkk
        clear hkk
        by_cases hki : k < i
        · have hkl : (k : Int) < (i : Int) := by omega
          obtain ⟨g, o9, hva⟩ := HR5.out.addr (by have := HNL.out; omega)
          obtain rfl : o9 = 0 := by
            rcases HN.out.2 with ⟨h1, h2⟩ | ⟨g2, cap, cur, he, _⟩
            · simp only [Value.slice.injEq] at h1; rw [h1.1] at hva; cases hva
            · simp only [Value.slice.injEq] at he; rw [he.1] at hva; simp at hva; omega
          subst hva
          obtain ⟨Y, hY⟩ : ∃ Y, out.getD k pl0 = Y := ⟨_, rfl⟩
          have HSK := hx (fun (w3 : World) (hk3 : Kept [] wr w3) => show (fun w3 => w3.cell? ⟨g, k * 5, none⟩ = some (txt Y.nm) ∧ w3.cell? ⟨g, k * 5 + 1, none⟩ = some (.int .i64 Y.ma) ∧ w3.cell? ⟨g, k * 5 + 2, none⟩ = some (.int .i64 Y.wo) ∧ w3.cell? ⟨g, k * 5 + 3, none⟩ = some (.int .i64 Y.dr) ∧ w3.cell? ⟨g, k * 5 + 4, none⟩ = some (.int .i64 Y.lo) ∧ w3.cell? ⟨gl, ol + i * 5, none⟩ = some (txt X.nm) ∧ w3.cell? ⟨gl, ol + i * 5 + 1, none⟩ = some (.int .i64 X.ma) ∧ w3.cell? ⟨gl, ol + i * 5 + 2, none⟩ = some (.int .i64 X.wo) ∧ w3.cell? ⟨gl, ol + i * 5 + 3, none⟩ = some (.int .i64 X.dr) ∧ w3.cell? ⟨gl, ol + i * 5 + 4, none⟩ = some (.int .i64 X.lo)) w3 from (by
            have h1 := (HR5.out.kept (HKK.out.trans0 hk3)).cells (i := k) (by have := HNL.out; omega)
            have h2 := (HR.out.kept ((HK.out.trans0 HKK.out).trans0 hk3)).cells HLT.out.2
            rw [hY] at h1
            rw [HX.out] at h2
            simp only [Nat.zero_add] at h1
            exact ⟨h1.1, h1.2.1, h1.2.2.1, h1.2.2.2.1, h1.2.2.2.2, h2.1, h2.2.1, h2.2.2.1, h2.2.2.2.1, h2.2.2.2.2⟩))
          have HAH := hx (fun W => rahead_any Y X W)
          have HY := hx hY
          have HKI := hx hki
          have hki32 : k < 32 := by omega
          cases hah : ahP Y X with
          | true =>
            have HJ2 : Hx (∀ j, j < k + 1 → ahP (out.getD j pl0) X = true) := ⟨fun j hjj => by
              by_cases hji : j < k
              · exact hj.out j hji
              · rw [show j = k by omega, hY]; exact hah⟩
            rw [hah] at HAH
            clear hah hY hki hj hk
            go_upto_region 6 with fail
            refine wp_region_held_drew (S := (fun w3 => w3.cell? ⟨g, k * 5, none⟩ = some (txt Y.nm) ∧ w3.cell? ⟨g, k * 5 + 1, none⟩ = some (.int .i64 Y.ma) ∧ w3.cell? ⟨g, k * 5 + 2, none⟩ = some (.int .i64 Y.wo) ∧ w3.cell? ⟨g, k * 5 + 3, none⟩ = some (.int .i64 Y.dr) ∧ w3.cell? ⟨g, k * 5 + 4, none⟩ = some (.int .i64 Y.lo) ∧ w3.cell? ⟨gl, ol + i * 5, none⟩ = some (txt X.nm) ∧ w3.cell? ⟨gl, ol + i * 5 + 1, none⟩ = some (.int .i64 X.ma) ∧ w3.cell? ⟨gl, ol + i * 5 + 2, none⟩ = some (.int .i64 X.wo) ∧ w3.cell? ⟨gl, ol + i * 5 + 3, none⟩ = some (.int .i64 X.dr) ∧ w3.cell? ⟨gl, ol + i * 5 + 4, none⟩ = some (.int .i64 X.lo))) (by kernel_rfl) (HSK.out _ ((Kept.refl [] wr).drew)) (fun hHeld => ?_)
            refine take_by 0 13 (v := ?_) rfl rfl (by kernel_rfl) (by kernel_rfl) (by kernel_rfl) (fun _ _ _ h => h) (Or.inl ⟨by rfl, ?_⟩) (by assumption) ?_
            rotate_left
            · (intro w hSw; (try dsimp only at hSw); go_simp; try with_reducible rfl)
            try simp only [List.setIfInBounds_toArray, List.set_cons_zero, List.set_cons_succ]
            refine take_by 1 14 (v := ?_) rfl rfl (by kernel_rfl) (by kernel_rfl) (by kernel_rfl) (fun _ _ _ h => h) (Or.inl ⟨by rfl, ?_⟩) (by assumption) ?_
            rotate_left
            · (intro w hSw; (try dsimp only at hSw); go_simp; try with_reducible rfl)
            try simp only [List.setIfInBounds_toArray, List.set_cons_zero, List.set_cons_succ]
            refine take_by 2 15 (v := ?_) rfl rfl (by kernel_rfl) (by kernel_rfl) (by kernel_rfl) (fun _ _ _ h => h) (Or.inl ⟨by rfl, ?_⟩) (by assumption) ?_
            rotate_left
            · (intro w hSw; (try dsimp only at hSw); go_simp; try with_reducible rfl)
            try simp only [List.setIfInBounds_toArray, List.set_cons_zero, List.set_cons_succ]
            refine take_by 3 16 (v := ?_) rfl rfl (by kernel_rfl) (by kernel_rfl) (by kernel_rfl) (fun _ _ _ h => h) (Or.inl ⟨by rfl, ?_⟩) (by assumption) ?_
            rotate_left
            · (intro w hSw; (try dsimp only at hSw); go_simp; try with_reducible rfl)
            try simp only [List.setIfInBounds_toArray, List.set_cons_zero, List.set_cons_succ]
            refine take_by 4 17 (v := ?_) rfl rfl (by kernel_rfl) (by kernel_rfl) (by kernel_rfl) (fun _ _ _ h => h) (Or.inl ⟨by rfl, ?_⟩) (by assumption) ?_
            rotate_left
            · (intro w hSw; (try dsimp only at hSw); go_simp; try with_reducible rfl)
            try simp only [List.setIfInBounds_toArray, List.set_cons_zero, List.set_cons_succ]
            refine take_by 5 18 (v := ?_) rfl rfl (by kernel_rfl) (by kernel_rfl) (by kernel_rfl) (fun _ _ _ h => h) (Or.inl ⟨by rfl, ?_⟩) (by assumption) ?_
            rotate_left
            · (intro w hSw; (try dsimp only at hSw); go_simp; try with_reducible rfl)
            try simp only [List.setIfInBounds_toArray, List.set_cons_zero, List.set_cons_succ]
            refine take_by 6 19 (v := ?_) rfl rfl (by kernel_rfl) (by kernel_rfl) (by kernel_rfl) (fun _ _ _ h => h) (Or.inl ⟨by rfl, ?_⟩) (by assumption) ?_
            rotate_left
            · (intro w hSw; (try dsimp only at hSw); go_simp; try with_reducible rfl)
            try simp only [List.setIfInBounds_toArray, List.set_cons_zero, List.set_cons_succ]
            refine take_by 7 20 (v := ?_) rfl rfl (by kernel_rfl) (by kernel_rfl) (by kernel_rfl) (fun _ _ _ h => h) (Or.inl ⟨by rfl, ?_⟩) (by assumption) ?_
            rotate_left
            · (intro w hSw; (try dsimp only at hSw); go_simp; try with_reducible rfl)
            try simp only [List.setIfInBounds_toArray, List.set_cons_zero, List.set_cons_succ]
            refine take_by 8 21 (v := ?_) rfl rfl (by kernel_rfl) (by kernel_rfl) (by kernel_rfl) (fun _ _ _ h => h) (Or.inl ⟨by rfl, ?_⟩) (by assumption) ?_
            rotate_left
            · (intro w hSw; (try dsimp only at hSw); go_simp; try with_reducible rfl)
            try simp only [List.setIfInBounds_toArray, List.set_cons_zero, List.set_cons_succ]
            refine take_by 9 22 (v := ?_) rfl rfl (by kernel_rfl) (by kernel_rfl) (by kernel_rfl) (fun _ _ _ h => h) (Or.inl ⟨by rfl, ?_⟩) (by assumption) ?_
            rotate_left
            · (intro w hSw; (try dsimp only at hSw); go_simp; try with_reducible rfl)
            try simp only [List.setIfInBounds_toArray, List.set_cons_zero, List.set_cons_succ]
            refine take_by 10 23 (v := ?_) rfl rfl (by kernel_rfl) (by kernel_rfl) (by kernel_rfl) (fun _ _ _ h => h) (Or.inl ⟨by rfl, ?_⟩) (by assumption) ?_
            rotate_left
            · (intro w hSw; (try dsimp only at hSw); go_simp; try with_reducible rfl)
            try simp only [List.setIfInBounds_toArray, List.set_cons_zero, List.set_cons_succ]
            refine take_by 11 24 (v := ?_) rfl rfl (by kernel_rfl) (by kernel_rfl) (by kernel_rfl) (fun _ _ _ h => h) (Or.inl ⟨by rfl, ?_⟩) (by assumption) ?_
            rotate_left
            · (intro w hSw; (try dsimp only at hSw); go_simp; try with_reducible rfl)
            try simp only [List.setIfInBounds_toArray, List.set_cons_zero, List.set_cons_succ]
            refine take_by 12 25 (v := ?_) rfl rfl (by kernel_rfl) (by kernel_rfl) (by kernel_rfl) (fun _ _ _ h => h) (Or.inl ⟨by rfl, ?_⟩) (by assumption) ?_
            rotate_left
            · (intro w hSw; (try dsimp only at hSw); go_simp; try with_reducible rfl)
            try simp only [List.setIfInBounds_toArray, List.set_cons_zero, List.set_cons_succ]
            refine wpAnyH_ready (rs := [13]) (by kernel_rfl) (by simp) ?_
            refine AllReadyH.cons rfl (fun K hK => ?_) AllReadyH.nil
            go_simp
            (go_at_call 33; refine (HAH.out _).mono ?_; rintro r w1 ⟨rfl, hk1⟩; have K1 := hx (show Kept [] wr w1 from (Kept.drew (Kept.refl [] wr)).trans0 hk1); have hS1 := HSK.out _ K1.out; clear hk1)
            refine hK.out _ _ (hS1) (fun hHeld => ?_)
            clear hK K
            try simp only [Act.put, List.setIfInBounds_toArray, List.set_cons_zero, List.set_cons_succ]
            refine take_by 14 27 (v := ?_) rfl rfl (by kernel_rfl) (by kernel_rfl) (by kernel_rfl) (fun _ _ _ h => h) (Or.inl ⟨by rfl, ?_⟩) (by assumption) ?_
            rotate_left
            · (intro w hSw; (try dsimp only at hSw); go_simp; try with_reducible rfl)
            try simp only [List.setIfInBounds_toArray, List.set_cons_zero, List.set_cons_succ]
            refine wpAnyH_done (by kernel_rfl) ?_ _
            go_wp2_with fail
            go_roundw
            case rel => exact ⟨k + 1, by push_cast; rfl, by have := HKI.out; omega, HJ2, HKK.out.trans0 K1.out⟩
            case measure =>
              simp only [intOf]
              have h := HKI.out
              omega
          | false =>
            have HINS := hx (show insP X out = out.take k ++ X :: out.drop k from insP_at (by have := HNL.out; omega) hj.out (.inr (by rw [hY]; exact hah)))
            rw [hah] at HAH
            have hle : k ≤ i := by omega
            clear hah hY hki hj hk
            go_upto_region 6 with fail
            refine wp_region_held_drew (S := (fun w3 => w3.cell? ⟨g, k * 5, none⟩ = some (txt Y.nm) ∧ w3.cell? ⟨g, k * 5 + 1, none⟩ = some (.int .i64 Y.ma) ∧ w3.cell? ⟨g, k * 5 + 2, none⟩ = some (.int .i64 Y.wo) ∧ w3.cell? ⟨g, k * 5 + 3, none⟩ = some (.int .i64 Y.dr) ∧ w3.cell? ⟨g, k * 5 + 4, none⟩ = some (.int .i64 Y.lo) ∧ w3.cell? ⟨gl, ol + i * 5, none⟩ = some (txt X.nm) ∧ w3.cell? ⟨gl, ol + i * 5 + 1, none⟩ = some (.int .i64 X.ma) ∧ w3.cell? ⟨gl, ol + i * 5 + 2, none⟩ = some (.int .i64 X.wo) ∧ w3.cell? ⟨gl, ol + i * 5 + 3, none⟩ = some (.int .i64 X.dr) ∧ w3.cell? ⟨gl, ol + i * 5 + 4, none⟩ = some (.int .i64 X.lo))) (by kernel_rfl) (HSK.out _ ((Kept.refl [] wr).drew)) (fun hHeld => ?_)
            refine take_by 0 13 (v := ?_) rfl rfl (by kernel_rfl) (by kernel_rfl) (by kernel_rfl) (fun _ _ _ h => h) (Or.inl ⟨by rfl, ?_⟩) (by assumption) ?_
            rotate_left
            · (intro w hSw; (try dsimp only at hSw); go_simp; try with_reducible rfl)
            try simp only [List.setIfInBounds_toArray, List.set_cons_zero, List.set_cons_succ]
            refine take_by 1 14 (v := ?_) rfl rfl (by kernel_rfl) (by kernel_rfl) (by kernel_rfl) (fun _ _ _ h => h) (Or.inl ⟨by rfl, ?_⟩) (by assumption) ?_
            rotate_left
            · (intro w hSw; (try dsimp only at hSw); go_simp; try with_reducible rfl)
            try simp only [List.setIfInBounds_toArray, List.set_cons_zero, List.set_cons_succ]
            refine take_by 2 15 (v := ?_) rfl rfl (by kernel_rfl) (by kernel_rfl) (by kernel_rfl) (fun _ _ _ h => h) (Or.inl ⟨by rfl, ?_⟩) (by assumption) ?_
            rotate_left
            · (intro w hSw; (try dsimp only at hSw); go_simp; try with_reducible rfl)
            try simp only [List.setIfInBounds_toArray, List.set_cons_zero, List.set_cons_succ]
            refine take_by 3 16 (v := ?_) rfl rfl (by kernel_rfl) (by kernel_rfl) (by kernel_rfl) (fun _ _ _ h => h) (Or.inl ⟨by rfl, ?_⟩) (by assumption) ?_
            rotate_left
            · (intro w hSw; (try dsimp only at hSw); go_simp; try with_reducible rfl)
            try simp only [List.setIfInBounds_toArray, List.set_cons_zero, List.set_cons_succ]
            refine take_by 4 17 (v := ?_) rfl rfl (by kernel_rfl) (by kernel_rfl) (by kernel_rfl) (fun _ _ _ h => h) (Or.inl ⟨by rfl, ?_⟩) (by assumption) ?_
            rotate_left
            · (intro w hSw; (try dsimp only at hSw); go_simp; try with_reducible rfl)
            try simp only [List.setIfInBounds_toArray, List.set_cons_zero, List.set_cons_succ]
            refine take_by 5 18 (v := ?_) rfl rfl (by kernel_rfl) (by kernel_rfl) (by kernel_rfl) (fun _ _ _ h => h) (Or.inl ⟨by rfl, ?_⟩) (by assumption) ?_
            rotate_left
            · (intro w hSw; (try dsimp only at hSw); go_simp; try with_reducible rfl)
            try simp only [List.setIfInBounds_toArray, List.set_cons_zero, List.set_cons_succ]
            refine take_by 6 19 (v := ?_) rfl rfl (by kernel_rfl) (by kernel_rfl) (by kernel_rfl) (fun _ _ _ h => h) (Or.inl ⟨by rfl, ?_⟩) (by assumption) ?_
            rotate_left
            · (intro w hSw; (try dsimp only at hSw); go_simp; try with_reducible rfl)
            try simp only [List.setIfInBounds_toArray, List.set_cons_zero, List.set_cons_succ]
            refine take_by 7 20 (v := ?_) rfl rfl (by kernel_rfl) (by kernel_rfl) (by kernel_rfl) (fun _ _ _ h => h) (Or.inl ⟨by rfl, ?_⟩) (by assumption) ?_
            rotate_left
            · (intro w hSw; (try dsimp only at hSw); go_simp; try with_reducible rfl)
            try simp only [List.setIfInBounds_toArray, List.set_cons_zero, List.set_cons_succ]
            refine take_by 8 21 (v := ?_) rfl rfl (by kernel_rfl) (by kernel_rfl) (by kernel_rfl) (fun _ _ _ h => h) (Or.inl ⟨by rfl, ?_⟩) (by assumption) ?_
            rotate_left
            · (intro w hSw; (try dsimp only at hSw); go_simp; try with_reducible rfl)
            try simp only [List.setIfInBounds_toArray, List.set_cons_zero, List.set_cons_succ]
            refine take_by 9 22 (v := ?_) rfl rfl (by kernel_rfl) (by kernel_rfl) (by kernel_rfl) (fun _ _ _ h => h) (Or.inl ⟨by rfl, ?_⟩) (by assumption) ?_
            rotate_left
            · (intro w hSw; (try dsimp only at hSw); go_simp; try with_reducible rfl)
            try simp only [List.setIfInBounds_toArray, List.set_cons_zero, List.set_cons_succ]
            refine take_by 10 23 (v := ?_) rfl rfl (by kernel_rfl) (by kernel_rfl) (by kernel_rfl) (fun _ _ _ h => h) (Or.inl ⟨by rfl, ?_⟩) (by assumption) ?_
            rotate_left
            · (intro w hSw; (try dsimp only at hSw); go_simp; try with_reducible rfl)
            try simp only [List.setIfInBounds_toArray, List.set_cons_zero, List.set_cons_succ]
            refine take_by 11 24 (v := ?_) rfl rfl (by kernel_rfl) (by kernel_rfl) (by kernel_rfl) (fun _ _ _ h => h) (Or.inl ⟨by rfl, ?_⟩) (by assumption) ?_
            rotate_left
            · (intro w hSw; (try dsimp only at hSw); go_simp; try with_reducible rfl)
            try simp only [List.setIfInBounds_toArray, List.set_cons_zero, List.set_cons_succ]
            refine take_by 12 25 (v := ?_) rfl rfl (by kernel_rfl) (by kernel_rfl) (by kernel_rfl) (fun _ _ _ h => h) (Or.inl ⟨by rfl, ?_⟩) (by assumption) ?_
            rotate_left
            · (intro w hSw; (try dsimp only at hSw); go_simp; try with_reducible rfl)
            try simp only [List.setIfInBounds_toArray, List.set_cons_zero, List.set_cons_succ]
            refine wpAnyH_ready (rs := [13]) (by kernel_rfl) (by simp) ?_
            refine AllReadyH.cons rfl (fun K hK => ?_) AllReadyH.nil
            go_simp
            (go_at_call 33; refine (HAH.out _).mono ?_; rintro r w1 ⟨rfl, hk1⟩; have K1 := hx (show Kept [] wr w1 from (Kept.drew (Kept.refl [] wr)).trans0 hk1); have hS1 := HSK.out _ K1.out; clear hk1)
            refine hK.out _ _ (hS1) (fun hHeld => ?_)
            clear hK K
            try simp only [Act.put, List.setIfInBounds_toArray, List.set_cons_zero, List.set_cons_succ]
            refine take_by 14 27 (v := ?_) rfl rfl (by kernel_rfl) (by kernel_rfl) (by kernel_rfl) (fun _ _ _ h => h) (Or.inl ⟨by rfl, ?_⟩) (by assumption) ?_
            rotate_left
            · (intro w hSw; (try dsimp only at hSw); go_simp; try with_reducible rfl)
            try simp only [List.setIfInBounds_toArray, List.set_cons_zero, List.set_cons_succ]
            refine wpAnyH_done (by kernel_rfl) ?_ _
            have HZ := hx (HKK.out.trans0 K1.out)
            have hVA := own_none0 HN.out
            have HLE := hx hle
            obtain ⟨a2, hs2, hr2, hn2⟩ := r5_drop (c := vc) (k := k) (HR5.out.kept HZ.out) (by have := HNL.out; omega) (by have := HNL.out; have := HVC.out; omega) hVA.1
            rw [← HNL.out] at hs2
            have hs3 := slice_cap (some ⟨g, 0, none⟩) i vc k hVA.2 (by have := HVC.out; omega)
            have HN2 := hx (And.intro hr2 hn2)
            have HSV := hx hVA
            clear hr2 hn2 hVA
            go_upto_region 9 with (at_builtin; refine wpList_app rfl (.tmp 30) (.tmp 33) 29 rfl w.heap.size 44 (.agg #[.string ByteArray.empty, .int .i64 0, .int .i64 0, .int .i64 0, .int .i64 0]) 5 48 infoRl Try.underlying29 rfl (by omega) (.slice (some ⟨w1.heap.size, 0, none⟩) 0 0) 0 [] rfl (own_empty5 rfl (Nat.le_trans HK.out.size HZ.out.size)) a2 (i - k) (vc - k) (cel (out.drop k)) rfl (by rw [cel_len, List.length_drop, ← HNL.out]) (fun h => HN2.out.2 h) (by have := HVC.out; omega) (fun ad he j u hj => by
                have hr := (HN2.out.1 w1 (HR5.out.kept HZ.out)).kept ((Kept.refl [] w1).alloc (.cells #[] 44))
                subst he
                have hlt := (List.getElem?_eq_some_iff.1 hj).1
                rw [cel_len] at hlt
                obtain ⟨g3, o3, h3⟩ := hr.addr (by omega)
                simp only [Option.some.injEq] at h3
                subst h3
                rw [Addr.add_mid]
                exact hr.all j u hj) (cel_one _) (by simp [maxLen]; omega) (by omega) (by have := HK.out.size; have := HZ.out.size; simp; omega) ?_; intro v6 w6 ho6 hg6; rw [Nat.zero_add, List.nil_append] at ho6; obtain ⟨hl6, ra, rc, rfl, hrc, hr6⟩ := own_r5 ho6; have HR6 := hx (And.intro hl6 (And.intro hrc (And.intro hr6 (own_none0 ho6).1))); have K6 := hx ((HZ.out.alloc (.cells #[] 44)).grown hg6 (fun j hj => by simp [Value.ownBlock] at hj; subst hj; exact .inr HZ.out.size)); clear ho6 hg6 hl6 hrc hr6)
            have HSK2 := hx (fun (w3 : World) (hk3 : Kept [] w6 w3) => show (fun w3 => w3.cell? ⟨gl, ol + i * 5, none⟩ = some (txt X.nm) ∧ w3.cell? ⟨gl, ol + i * 5 + 1, none⟩ = some (.int .i64 X.ma) ∧ w3.cell? ⟨gl, ol + i * 5 + 2, none⟩ = some (.int .i64 X.wo) ∧ w3.cell? ⟨gl, ol + i * 5 + 3, none⟩ = some (.int .i64 X.dr) ∧ w3.cell? ⟨gl, ol + i * 5 + 4, none⟩ = some (.int .i64 X.lo)) w3 from (by
              have h2 := (HR.out.kept ((HK.out.trans0 K6.out).trans0 hk3)).cells HLT.out.2
              rw [HX.out] at h2
              exact ⟨h2.1, h2.2.1, h2.2.2.1, h2.2.2.2.1, h2.2.2.2.2⟩))
            refine wp_region_held_drew (S := (fun w3 => w3.cell? ⟨gl, ol + i * 5, none⟩ = some (txt X.nm) ∧ w3.cell? ⟨gl, ol + i * 5 + 1, none⟩ = some (.int .i64 X.ma) ∧ w3.cell? ⟨gl, ol + i * 5 + 2, none⟩ = some (.int .i64 X.wo) ∧ w3.cell? ⟨gl, ol + i * 5 + 3, none⟩ = some (.int .i64 X.dr) ∧ w3.cell? ⟨gl, ol + i * 5 + 4, none⟩ = some (.int .i64 X.lo))) (by kernel_rfl) (HSK2.out _ ((Kept.drew (Kept.refl [] w6)))) (fun hHeld => ?_)
            refine take_by 0 35 (v := ?_) rfl rfl (by kernel_rfl) (by kernel_rfl) (by kernel_rfl) (fun _ _ _ h => h) (Or.inl ⟨by rfl, ?_⟩) (by assumption) ?_
            rotate_left
            · (intro w hSw; (try dsimp only at hSw); go_simp; try with_reducible rfl)
            try simp only [List.setIfInBounds_toArray, List.set_cons_zero, List.set_cons_succ]
            refine take_by 1 36 (v := ?_) rfl rfl (by kernel_rfl) (by kernel_rfl) (by kernel_rfl) (fun _ _ _ h => h) (Or.inl ⟨by rfl, ?_⟩) (by assumption) ?_
            rotate_left
            · (intro w hSw; (try dsimp only at hSw); go_simp; try with_reducible rfl)
            try simp only [List.setIfInBounds_toArray, List.set_cons_zero, List.set_cons_succ]
            refine take_by 2 37 (v := ?_) rfl rfl (by kernel_rfl) (by kernel_rfl) (by kernel_rfl) (fun _ _ _ h => h) (Or.inl ⟨by rfl, ?_⟩) (by assumption) ?_
            rotate_left
            · (intro w hSw; (try dsimp only at hSw); go_simp; try with_reducible rfl)
            try simp only [List.setIfInBounds_toArray, List.set_cons_zero, List.set_cons_succ]
            refine take_by 3 38 (v := ?_) rfl rfl (by kernel_rfl) (by kernel_rfl) (by kernel_rfl) (fun _ _ _ h => h) (Or.inl ⟨by rfl, ?_⟩) (by assumption) ?_
            rotate_left
            · (intro w hSw; (try dsimp only at hSw); go_simp; try with_reducible rfl)
            try simp only [List.setIfInBounds_toArray, List.set_cons_zero, List.set_cons_succ]
            refine take_by 4 39 (v := ?_) rfl rfl (by kernel_rfl) (by kernel_rfl) (by kernel_rfl) (fun _ _ _ h => h) (Or.inl ⟨by rfl, ?_⟩) (by assumption) ?_
            rotate_left
            · (intro w hSw; (try dsimp only at hSw); go_simp; try with_reducible rfl)
            try simp only [List.setIfInBounds_toArray, List.set_cons_zero, List.set_cons_succ]
            refine take_by 5 40 (v := ?_) rfl rfl (by kernel_rfl) (by kernel_rfl) (by kernel_rfl) (fun _ _ _ h => h) (Or.inl ⟨by rfl, ?_⟩) (by assumption) ?_
            rotate_left
            · (intro w hSw; (try dsimp only at hSw); go_simp; try with_reducible rfl)
            try simp only [List.setIfInBounds_toArray, List.set_cons_zero, List.set_cons_succ]
            refine take_by 6 41 (v := ?_) rfl rfl (by kernel_rfl) (by kernel_rfl) (by kernel_rfl) (fun _ _ _ h => h) (Or.inl ⟨by rfl, ?_⟩) (by assumption) ?_
            rotate_left
            · (intro w hSw; (try dsimp only at hSw); go_simp; try with_reducible rfl)
            try simp only [List.setIfInBounds_toArray, List.set_cons_zero, List.set_cons_succ]
            refine take_by 7 42 (v := ?_) rfl rfl (by kernel_rfl) (by kernel_rfl) (by kernel_rfl) (fun _ _ _ h => h) (Or.inl ⟨by rfl, ?_⟩) (by assumption) ?_
            rotate_left
            · (intro w hSw; (try dsimp only at hSw); go_simp; try with_reducible rfl)
            try simp only [List.setIfInBounds_toArray, List.set_cons_zero, List.set_cons_succ]
            refine take_by 10 45 (v := ?_) rfl rfl (by kernel_rfl) (by kernel_rfl) (by kernel_rfl) (fun _ _ _ h => h) (Or.inl ⟨by rfl, ?_⟩) (by assumption) ?_
            rotate_left
            · (intro w hSw; (try dsimp only at hSw); go_simp; try with_reducible rfl)
            try simp only [List.setIfInBounds_toArray, List.set_cons_zero, List.set_cons_succ]
            refine wpAnyH_ready (rs := [8]) (by kernel_rfl) (by simp) ?_
            refine AllReadyH.cons rfl (fun K hK => ?_) AllReadyH.nil
            go_simp
            refine hK.out _ _ (HSK2.out _ ((Kept.drew (Kept.refl [] w6)).alloc (.cells (enc5 X).toArray 44))) (fun hHeld => ?_)
            clear hK K
            try simp only [Act.put, List.setIfInBounds_toArray, List.set_cons_zero, List.set_cons_succ]
            refine wpAnyH_ready (rs := [9]) (by kernel_rfl) (by simp) ?_
            refine AllReadyH.cons rfl (fun K hK => ?_) AllReadyH.nil
            refine step_grow rfl (.tmp 38) (.tmp 43) 29 rfl 44 (.agg #[.string ByteArray.empty, .int .i64 0, .int .i64 0, .int .i64 0, .int .i64 0]) 5 48 infoRl Try.underlying29 rfl (by omega) (some ⟨g, 0, none⟩) k (cel (out.take k)) rfl (fun h => by have h2 := HSV.out.1 h; have := HVC.out; have := HLE.out; omega) (by rw [cel_len, List.length_take, ← HNL.out]; congr 1; have := HLE.out; omega) (fun b he j u hj => by have hr := (take_r5 (HR5.out.kept (K6.out.alloc (.cells (enc5 X).toArray 44))) k); (first | subst he | (simp only [Option.some.injEq] at he; subst he)); have hlt := (List.getElem?_eq_some_iff.1 hj).1; rw [cel_len] at hlt; obtain ⟨g3, o3, h3⟩ := hr.addr (by omega); simp only [Option.some.injEq] at h3; cases h3; rw [Addr.add_mid]; exact hr.all j u hj) ⟨w6.drew.heap.size, 0, none⟩ 1 (enc5 X) rfl rfl (fun j u hj => by rw [Addr.add_mid, Nat.zero_add]; exact (Blk.new w6.drew (enc5 X) 44).cell hj) (one_enc5 X) (by simp [maxLen]; omega) (by omega) ?_
            intro v8 w8 ho8 hg8
            have HO8 := hx ho8
            have K8 := hx (((Kept.drew (Kept.refl [] w6)).alloc (.cells (enc5 X).toArray 44)).grown hg8 (fun j hj => by cases hj))
            clear ho8 hg8
            refine hK.out _ _ (HSK2.out _ K8.out) (fun hHeld => ?_)
            clear hK K
            try simp only [Act.put, List.setIfInBounds_toArray]
            refine wpAnyH_ready (rs := [11]) (by kernel_rfl) (by simp) ?_
            refine AllReadyH.cons rfl (fun K hK => ?_) AllReadyH.nil
            refine step_app rfl (.tmp 44) (.tmp 45) 29 rfl w.heap.size 44 (.agg #[.string ByteArray.empty, .int .i64 0, .int .i64 0, .int .i64 0, .int .i64 0]) 5 48 infoRl Try.underlying29 rfl (by omega) v8 (k + 1) (cel (out.take k) ++ enc5 X) rfl (own_le HO8.out (by have := HK.out.size; have := K6.out.size; simp; omega)) ra (i - k) rc (cel (out.drop k)) rfl (by rw [cel_len, List.length_drop, ← HNL.out]) HR6.out.2.2.2 HR6.out.2.1 (fun ad he j u hj => by have hr := HR6.out.2.2.1.kept K8.out; subst he; have hlt := (List.getElem?_eq_some_iff.1 hj).1; rw [cel_len] at hlt; obtain ⟨g3, o3, h3⟩ := hr.addr (by omega); simp only [Option.some.injEq] at h3; subst h3; rw [Addr.add_mid]; exact hr.all j u hj) (cel_one _) (by simp [maxLen]; omega) (by omega) (by have := HK.out.size; have := K6.out.size; have := K8.out.size; omega) ?_
            intro v9 w9 ho9 hg9
            have HO9 := hx (show w9.ownsRow w.heap.size 44 5 v9 (i + 1) (cel (out.take k ++ X :: out.drop k)) by rw [show i + 1 = k + 1 + (i - k) by have := HLE.out; omega, cel_append, show cel (X :: out.drop k) = enc5 X ++ cel (out.drop k) from rfl, ← List.append_assoc]; exact ho9)
            have K9 := hx (K8.out.grown hg9 (fun j hj => .inr (by have h := (HO8.out.lt j hj).1; simp at h; omega)))
            clear ho9 hg9
            refine hK.out _ _ (HSK2.out _ K9.out) (fun hHeld => ?_)
            clear hK K
            try simp only [Act.put]
            refine take_by 12 3 (v := ?_) rfl rfl (by kernel_rfl) (by kernel_rfl) (by kernel_rfl) (fun _ _ _ h => h) (Or.inl ⟨by rfl, ?_⟩) (by assumption) ?_
            rotate_left
            · (intro w hSw; (try dsimp only at hSw); go_simp; try with_reducible rfl)
            try simp only [List.setIfInBounds_toArray, List.set_cons_zero, List.set_cons_succ]
            refine wpAnyH_done (by kernel_rfl) ?_ _
            go_wp2_with fail
            go_roundw
            case rel =>
              refine ⟨i + 1, v9, rfl, by push_cast; rfl, HLT.out.1, ?_, HK.out.trans0 (K6.out.trans0 K9.out)⟩
              rw [HTK.out, ranksP_snoc, HOUT.out, HINS.out]
              exact HO9.out
            case measure =>
              simp only [intOf]
              have h := HLT.out.1
              omega
        · have hki2 : k = i := by omega
          have HINS := hx (show insP X out = out.take k ++ X :: out.drop k from insP_at (by have := HNL.out; omega) hj.out (.inl (by have := HNL.out; omega)))
          have hkl : ¬ (k : Int) < (i : Int) := by omega
          have hle : k ≤ i := by omega
          clear hki hki2 hj hk
          go_upto_region 6 with fail
          go_quiet (fail)
          have HZ := hx (HKK.out.trans0 (Kept.drewN (Kept.refl [] wr) nq))
          generalize wr.drewN nq = w1 at *
          have hVA := own_none0 HN.out
          have HLE := hx hle
          obtain ⟨a2, hs2, hr2, hn2⟩ := r5_drop (c := vc) (k := k) (HR5.out.kept HZ.out) (by have := HNL.out; omega) (by have := HNL.out; have := HVC.out; omega) hVA.1
          rw [← HNL.out] at hs2
          have hs3 := slice_cap (va) i vc k hVA.2 (by have := HVC.out; omega)
          have HN2 := hx (And.intro hr2 hn2)
          have HSV := hx hVA
          clear hr2 hn2 hVA
          go_upto_region 9 with (at_builtin; refine wpList_app rfl (.tmp 30) (.tmp 33) 29 rfl w.heap.size 44 (.agg #[.string ByteArray.empty, .int .i64 0, .int .i64 0, .int .i64 0, .int .i64 0]) 5 48 infoRl Try.underlying29 rfl (by omega) (.slice (some ⟨w1.heap.size, 0, none⟩) 0 0) 0 [] rfl (own_empty5 rfl (Nat.le_trans HK.out.size HZ.out.size)) a2 (i - k) (vc - k) (cel (out.drop k)) rfl (by rw [cel_len, List.length_drop, ← HNL.out]) (fun h => HN2.out.2 h) (by have := HVC.out; omega) (fun ad he j u hj => by
              have hr := (HN2.out.1 w1 (HR5.out.kept HZ.out)).kept ((Kept.refl [] w1).alloc (.cells #[] 44))
              subst he
              have hlt := (List.getElem?_eq_some_iff.1 hj).1
              rw [cel_len] at hlt
              obtain ⟨g3, o3, h3⟩ := hr.addr (by omega)
              simp only [Option.some.injEq] at h3
              subst h3
              rw [Addr.add_mid]
              exact hr.all j u hj) (cel_one _) (by simp [maxLen]; omega) (by omega) (by have := HK.out.size; have := HZ.out.size; simp; omega) ?_; intro v6 w6 ho6 hg6; rw [Nat.zero_add, List.nil_append] at ho6; obtain ⟨hl6, ra, rc, rfl, hrc, hr6⟩ := own_r5 ho6; have HR6 := hx (And.intro hl6 (And.intro hrc (And.intro hr6 (own_none0 ho6).1))); have K6 := hx ((HZ.out.alloc (.cells #[] 44)).grown hg6 (fun j hj => by simp [Value.ownBlock] at hj; subst hj; exact .inr HZ.out.size)); clear ho6 hg6 hl6 hrc hr6)
          have HSK2 := hx (fun (w3 : World) (hk3 : Kept [] w6 w3) => show (fun w3 => w3.cell? ⟨gl, ol + i * 5, none⟩ = some (txt X.nm) ∧ w3.cell? ⟨gl, ol + i * 5 + 1, none⟩ = some (.int .i64 X.ma) ∧ w3.cell? ⟨gl, ol + i * 5 + 2, none⟩ = some (.int .i64 X.wo) ∧ w3.cell? ⟨gl, ol + i * 5 + 3, none⟩ = some (.int .i64 X.dr) ∧ w3.cell? ⟨gl, ol + i * 5 + 4, none⟩ = some (.int .i64 X.lo)) w3 from (by
            have h2 := (HR.out.kept ((HK.out.trans0 K6.out).trans0 hk3)).cells HLT.out.2
            rw [HX.out] at h2
            exact ⟨h2.1, h2.2.1, h2.2.2.1, h2.2.2.2.1, h2.2.2.2.2⟩))
          refine wp_region_held_drew (S := (fun w3 => w3.cell? ⟨gl, ol + i * 5, none⟩ = some (txt X.nm) ∧ w3.cell? ⟨gl, ol + i * 5 + 1, none⟩ = some (.int .i64 X.ma) ∧ w3.cell? ⟨gl, ol + i * 5 + 2, none⟩ = some (.int .i64 X.wo) ∧ w3.cell? ⟨gl, ol + i * 5 + 3, none⟩ = some (.int .i64 X.dr) ∧ w3.cell? ⟨gl, ol + i * 5 + 4, none⟩ = some (.int .i64 X.lo))) (by kernel_rfl) (HSK2.out _ ((Kept.drew (Kept.refl [] w6)))) (fun hHeld => ?_)
          refine take_by 0 35 (v := ?_) rfl rfl (by kernel_rfl) (by kernel_rfl) (by kernel_rfl) (fun _ _ _ h => h) (Or.inl ⟨by rfl, ?_⟩) (by assumption) ?_
          rotate_left
          · (intro w hSw; (try dsimp only at hSw); go_simp; try with_reducible rfl)
          try simp only [List.setIfInBounds_toArray, List.set_cons_zero, List.set_cons_succ]
          refine take_by 1 36 (v := ?_) rfl rfl (by kernel_rfl) (by kernel_rfl) (by kernel_rfl) (fun _ _ _ h => h) (Or.inl ⟨by rfl, ?_⟩) (by assumption) ?_
          rotate_left
          · (intro w hSw; (try dsimp only at hSw); go_simp; try with_reducible rfl)
          try simp only [List.setIfInBounds_toArray, List.set_cons_zero, List.set_cons_succ]
          refine take_by 2 37 (v := ?_) rfl rfl (by kernel_rfl) (by kernel_rfl) (by kernel_rfl) (fun _ _ _ h => h) (Or.inl ⟨by rfl, ?_⟩) (by assumption) ?_
          rotate_left
          · (intro w hSw; (try dsimp only at hSw); go_simp; try with_reducible rfl)
          try simp only [List.setIfInBounds_toArray, List.set_cons_zero, List.set_cons_succ]
          refine take_by 3 38 (v := ?_) rfl rfl (by kernel_rfl) (by kernel_rfl) (by kernel_rfl) (fun _ _ _ h => h) (Or.inl ⟨by rfl, ?_⟩) (by assumption) ?_
          rotate_left
          · (intro w hSw; (try dsimp only at hSw); go_simp; try with_reducible rfl)
          try simp only [List.setIfInBounds_toArray, List.set_cons_zero, List.set_cons_succ]
          refine take_by 4 39 (v := ?_) rfl rfl (by kernel_rfl) (by kernel_rfl) (by kernel_rfl) (fun _ _ _ h => h) (Or.inl ⟨by rfl, ?_⟩) (by assumption) ?_
          rotate_left
          · (intro w hSw; (try dsimp only at hSw); go_simp; try with_reducible rfl)
          try simp only [List.setIfInBounds_toArray, List.set_cons_zero, List.set_cons_succ]
          refine take_by 5 40 (v := ?_) rfl rfl (by kernel_rfl) (by kernel_rfl) (by kernel_rfl) (fun _ _ _ h => h) (Or.inl ⟨by rfl, ?_⟩) (by assumption) ?_
          rotate_left
          · (intro w hSw; (try dsimp only at hSw); go_simp; try with_reducible rfl)
          try simp only [List.setIfInBounds_toArray, List.set_cons_zero, List.set_cons_succ]
          refine take_by 6 41 (v := ?_) rfl rfl (by kernel_rfl) (by kernel_rfl) (by kernel_rfl) (fun _ _ _ h => h) (Or.inl ⟨by rfl, ?_⟩) (by assumption) ?_
          rotate_left
          · (intro w hSw; (try dsimp only at hSw); go_simp; try with_reducible rfl)
          try simp only [List.setIfInBounds_toArray, List.set_cons_zero, List.set_cons_succ]
          refine take_by 7 42 (v := ?_) rfl rfl (by kernel_rfl) (by kernel_rfl) (by kernel_rfl) (fun _ _ _ h => h) (Or.inl ⟨by rfl, ?_⟩) (by assumption) ?_
          rotate_left
          · (intro w hSw; (try dsimp only at hSw); go_simp; try with_reducible rfl)
          try simp only [List.setIfInBounds_toArray, List.set_cons_zero, List.set_cons_succ]
          refine take_by 10 45 (v := ?_) rfl rfl (by kernel_rfl) (by kernel_rfl) (by kernel_rfl) (fun _ _ _ h => h) (Or.inl ⟨by rfl, ?_⟩) (by assumption) ?_
          rotate_left
          · (intro w hSw; (try dsimp only at hSw); go_simp; try with_reducible rfl)
          try simp only [List.setIfInBounds_toArray, List.set_cons_zero, List.set_cons_succ]
          refine wpAnyH_ready (rs := [8]) (by kernel_rfl) (by simp) ?_
          refine AllReadyH.cons rfl (fun K hK => ?_) AllReadyH.nil
          go_simp
          refine hK.out _ _ (HSK2.out _ ((Kept.drew (Kept.refl [] w6)).alloc (.cells (enc5 X).toArray 44))) (fun hHeld => ?_)
          clear hK K
          try simp only [Act.put, List.setIfInBounds_toArray, List.set_cons_zero, List.set_cons_succ]
          refine wpAnyH_ready (rs := [9]) (by kernel_rfl) (by simp) ?_
          refine AllReadyH.cons rfl (fun K hK => ?_) AllReadyH.nil
          refine step_grow rfl (.tmp 38) (.tmp 43) 29 rfl 44 (.agg #[.string ByteArray.empty, .int .i64 0, .int .i64 0, .int .i64 0, .int .i64 0]) 5 48 infoRl Try.underlying29 rfl (by omega) (va) k (cel (out.take k)) rfl (fun h => by have h2 := HSV.out.1 h; have := HVC.out; have := HLE.out; omega) (by rw [cel_len, List.length_take, ← HNL.out]; congr 1; have := HLE.out; omega) (fun b he j u hj => by have hr := (take_r5 (HR5.out.kept (K6.out.alloc (.cells (enc5 X).toArray 44))) k); (first | subst he | (simp only [Option.some.injEq] at he; subst he)); have hlt := (List.getElem?_eq_some_iff.1 hj).1; rw [cel_len] at hlt; obtain ⟨g3, o3, h3⟩ := hr.addr (by omega); simp only [Option.some.injEq] at h3; cases h3; rw [Addr.add_mid]; exact hr.all j u hj) ⟨w6.drew.heap.size, 0, none⟩ 1 (enc5 X) rfl rfl (fun j u hj => by rw [Addr.add_mid, Nat.zero_add]; exact (Blk.new w6.drew (enc5 X) 44).cell hj) (one_enc5 X) (by simp [maxLen]; omega) (by omega) ?_
          intro v8 w8 ho8 hg8
          have HO8 := hx ho8
          have K8 := hx (((Kept.drew (Kept.refl [] w6)).alloc (.cells (enc5 X).toArray 44)).grown hg8 (fun j hj => by cases hj))
          clear ho8 hg8
          refine hK.out _ _ (HSK2.out _ K8.out) (fun hHeld => ?_)
          clear hK K
          try simp only [Act.put, List.setIfInBounds_toArray]
          refine wpAnyH_ready (rs := [11]) (by kernel_rfl) (by simp) ?_
          refine AllReadyH.cons rfl (fun K hK => ?_) AllReadyH.nil
          refine step_app rfl (.tmp 44) (.tmp 45) 29 rfl w.heap.size 44 (.agg #[.string ByteArray.empty, .int .i64 0, .int .i64 0, .int .i64 0, .int .i64 0]) 5 48 infoRl Try.underlying29 rfl (by omega) v8 (k + 1) (cel (out.take k) ++ enc5 X) rfl (own_le HO8.out (by have := HK.out.size; have := K6.out.size; simp; omega)) ra (i - k) rc (cel (out.drop k)) rfl (by rw [cel_len, List.length_drop, ← HNL.out]) HR6.out.2.2.2 HR6.out.2.1 (fun ad he j u hj => by have hr := HR6.out.2.2.1.kept K8.out; subst he; have hlt := (List.getElem?_eq_some_iff.1 hj).1; rw [cel_len] at hlt; obtain ⟨g3, o3, h3⟩ := hr.addr (by omega); simp only [Option.some.injEq] at h3; subst h3; rw [Addr.add_mid]; exact hr.all j u hj) (cel_one _) (by simp [maxLen]; omega) (by omega) (by have := HK.out.size; have := K6.out.size; have := K8.out.size; omega) ?_
          intro v9 w9 ho9 hg9
          have HO9 := hx (show w9.ownsRow w.heap.size 44 5 v9 (i + 1) (cel (out.take k ++ X :: out.drop k)) by rw [show i + 1 = k + 1 + (i - k) by have := HLE.out; omega, cel_append, show cel (X :: out.drop k) = enc5 X ++ cel (out.drop k) from rfl, ← List.append_assoc]; exact ho9)
          have K9 := hx (K8.out.grown hg9 (fun j hj => .inr (by have h := (HO8.out.lt j hj).1; simp at h; omega)))
          clear ho9 hg9
          refine hK.out _ _ (HSK2.out _ K9.out) (fun hHeld => ?_)
          clear hK K
          try simp only [Act.put]
          refine take_by 12 3 (v := ?_) rfl rfl (by kernel_rfl) (by kernel_rfl) (by kernel_rfl) (fun _ _ _ h => h) (Or.inl ⟨by rfl, ?_⟩) (by assumption) ?_
          rotate_left
          · (intro w hSw; (try dsimp only at hSw); go_simp; try with_reducible rfl)
          try simp only [List.setIfInBounds_toArray, List.set_cons_zero, List.set_cons_succ]
          refine wpAnyH_done (by kernel_rfl) ?_ _
          go_wp2_with fail
          go_roundw
          case rel =>
            refine ⟨i + 1, v9, rfl, by push_cast; rfl, HLT.out.1, ?_, HK.out.trans0 (K6.out.trans0 K9.out)⟩
            rw [HTK.out, ranksP_snoc, HOUT.out, HINS.out]
            exact HO9.out
          case measure =>
            simp only [intOf]
            have h := HLT.out.1
            omega
    · have hie : i = n := by omega
      subst hie
      have hil : ¬ ((i : Int) < (i : Int)) := by omega
      obtain ⟨hnl, va, vc, rfl, hvc, hr5⟩ := own_r5 HN.out
      rw [List.take_of_length_le (by have := HM.out; omega)] at hr5
      have HV := hx (And.intro hvc hr5)
      clear hnl hvc hr5 hlt hi HN
      go_wp2_with fail
      go_ret
      exact ⟨va, vc, rfl, HV.out.1, HV.out.2, HK.out⟩
end Go.Proofs.Ytimplkdmhndalaa
