/- The timer's Tick. -/
import Derived.Test.YteobkcmfpmolmaaTnG
namespace Go.Proofs.Yteobkcmfpmolmaa
open Go Go.RowKit Go.Shelf
theorem Ts.now1 {w : World} {q : Nat} {v : Value} {room now no : Int} {h : List En} (s : Ts w q v room now no h) (m : Int) : Ts (w.setCell ⟨q, 1, none⟩ (.int .i64 m)) q v room m no h ∧ KeptT w (w.setCell ⟨q, 1, none⟩ (.int .i64 m)) q v v := by
  have hk := (Kept.refl [q] w).setCell (p := ⟨q, 1, none⟩) (.inl (by simp)) (.int .i64 m)
  exact ⟨⟨s.hq.set 1 _, own_ts s.own hk s.ne, s.ne⟩, hk.mono (by simp), .inl rfl⟩
/-- A list of keys, where it lies. -/
def Ik (w : World) (a : Option Addr) (l : List Int) : Prop := ∀ i, i < l.length → ∃ g off, a = some ⟨g, off, none⟩ ∧ w.cell? ⟨g, off + i, none⟩ = some (.int .u32 (l.getD i 0))
def ik1 (l : List Int) : List Value := l.map (fun x => Value.int .u32 x)
def TickP (w : World) (q : Nat) (v : Value) (room now no ticks : Int) (s : List En) (e : Ending) (w' : World) : Prop :=
  ∃ v' a c, KeptT w w' q v v' ∧ Ts w' q v' room (nowT now ticks) no (s.drop (dueN (nowT now ticks) s)) ∧ e = .returned (.slice a (dueN (nowT now ticks) s) c) ∧ dueN (nowT now ticks) s ≤ c ∧ Ik w' a ((s.take (dueN (nowT now ticks) s)).map (·.key)) ∧ (∀ g off, a = some ⟨g, off, none⟩ → w.heap.size ≤ g) ∧ v'.ownBlock = v.ownBlock
theorem Ts.reown {w w1 : World} {q : Nat} {v : Value} {room now no : Int} {h h' : List En} (s : Ts w q v room now no h) (hk : Kept v.ownBlock.toList w w1) (ho : w1.ownsRow 0 78 3 v h'.length (cel h')) : Ts w1 q v room now no h' ∧ KeptT w w1 q v v :=
  ⟨⟨hk.blk s.hq (by simp only [Option.mem_toList]; exact s.ne), ho, s.ne⟩, hk.mono (fun x hx => .inl (List.mem_cons_of_mem _ hx)), .inl rfl⟩
theorem ik1_snoc (l : List Int) (x : Int) : ik1 (l ++ [x]) = ik1 l ++ [.int .u32 x] := by simp [ik1]
theorem ik_form {w : World} {base : Nat} {e : TypeId} {v : Value} {n : Nat} {l : List Int} (h : w.ownsRow base e 1 v n (ik1 l)) : l.length = n ∧ ∃ a cap, v = .slice a n cap ∧ n ≤ cap ∧ Ik w a l ∧ ∀ g off, a = some ⟨g, off, none⟩ → base ≤ g := by
  have hl := h.1
  simp only [ik1, List.length_map, Nat.mul_one] at hl
  refine ⟨hl, ?_⟩
  rcases h.2 with ⟨rfl, rfl⟩ | ⟨g, cap, cur, rfl, hb, hg, hnc, hcm, hcs, htake⟩
  · exact ⟨none, 0, rfl, by omega, fun i hi => by omega, by simp⟩
  · refine ⟨_, cap, rfl, hnc, fun i hi => ⟨g, 0, rfl, ?_⟩, fun g' off e => by simp at e; omega⟩
    rw [Nat.zero_add, h.cellAt i (by omega)]
    simp [ik1, List.getD, hi]
theorem infoInt : (Try.prog.info? 31).map (fun i => (i.zero, i.size, i.bytes)) = some (some (.int .u32 0), 1, 4) := by kernel_rfl
theorem blk_news {w : World} {g : Nat} {xs : List Value} {T : TypeId} (h : Blk w g xs T) : ∀ ad, some (⟨g, 0, none⟩ : Addr) = some ad → ∀ j u, xs[j]? = some u → w.cell? (ad.add j) = some u := by
  intro ad ha j u hu
  simp only [Option.some.injEq] at ha
  subst ha
  rw [Addr.add_mid]
  simp only [Nat.zero_add]
  exact h.cell hu
theorem Ik.kept {w w2 : World} {a : Option Addr} {l : List Int} (h : Ik w a l) (hk : Kept [] w w2) : Ik w2 a l := fun i hi => by
  obtain ⟨g, off, h1, h2⟩ := h i hi
  exact ⟨g, off, h1, kept_cell hk h2⟩
theorem Ik.frame {w w2 : World} {bs : List Nat} {a : Option Addr} {l : List Int} (h : Ik w a l) (hk : Kept bs w w2) (hb : ∀ g off, a = some ⟨g, off, none⟩ → g ∉ bs) : Ik w2 a l := fun i hi => by
  obtain ⟨g, off, h1, h2⟩ := h i hi
  exact ⟨g, off, h1, by rw [hk.cell (block_lt_of_cell h2) (hb g off h1)]; exact h2⟩
theorem nowT_eq {now ticks : Int} (h : now ≤ 1099511627776) : now + max 0 (min ticks (1099511627776 - now)) = nowT now ticks := by
  unfold nowT
  rw [show min now 1099511627776 = now by omega]
set_option maxHeartbeats 1600000 in
theorem tick_nil (q c : Nat) (room now no ticks : Int) (w : World) (hs : Ts w q (.slice none 0 c) room now no []) (hp : Tp [] [] now no) :
    Calls Try.prog 25 #[.pointer (some ⟨q, 0, none⟩), .int .i64 ticks] w (TickP w q (.slice none 0 c) room now no ticks []) := by
  obtain rfl : c = 0 := by
    rcases hs.own.2 with ⟨h, _⟩ | ⟨g, cap, cur, h, _⟩
    · simpa using h
    · simp at h
  have HS := hx hs
  have HD := hx (fun w1 => del_none none 0 0 0 w1 (Nat.le_refl _) (Nat.le_refl _) (fun _ => rfl) (by simp))
  have HT := hx (fun w1 => show Calls Try.prog 39 #[.slice none 0 0, .func (.func 40) #[] #[]] w1 fun e w' => e = .returned (.tuple #[]) ∧ w1 = w' from (sort_none none 0 w1).mono fun e w' ⟨h1, h2⟩ => ⟨h1, h2.symm⟩)
  have HQ := hx (fun w1 w2 (hk1 : KeptT w w1 q (.slice none 0 0) (.slice none 0 0)) (hs1 : Ts w1 q (.slice none 0 0) room (nowT now ticks) no []) (hk2 : w2 = w1.setCell ⟨q, 3, none⟩ (.slice none 0 0)) => show TickP w q (.slice none 0 0) room now no ticks [] (.returned (.slice none 0 0)) w2 from ⟨.slice none 0 0, none, 0, by rw [hk2]; exact hk1.trans hs1.put0.2, by rw [hk2]; exact hs1.put0.1, rfl, Nat.zero_le _, fun i hi => by simp [dueN] at hi, by simp, rfl⟩)
  generalize TickP w q (.slice none 0 0) room now no ticks [] = PP at *
  have hn0 := hp.now0
  have HN1 := hx hp.now1
  have c1 := hs.hq.cell (i := 1) rfl
  have hf := hs.hq.free
  have hw1 : IntKind.i64.wrap (1099511627776 - now) = 1099511627776 - now := IntWalk.i64_in _ (by have := HN1.out; omega)
  have hm1 : min now 1099511627776 = now := by have := HN1.out; omega
  clear hs hp
  go_enter Try.func25, Try.ntmps25
  go_upto_region 1 with fail
  go_region
  rw [nowT_eq HN1.out]
  generalize max 0 (min ticks (1099511627776 - now)) = M1 at *
  generalize min ticks (1099511627776 - now) = M2 at *
  have HS1 := hx (HS.out.now1 (nowT now ticks))
  generalize nowT now ticks = N at *
  clear hw1 hm1 c1 hf HS
  have HS2 := hx (HS1.out.1.kept ((Kept.refl [] _).drew))
  have HK2 := hx (HS1.out.2.trans (KeptT.of ((Kept.refl [] _).drew)))
  generalize (w.setCell ⟨q, 1, none⟩ (.int .i64 N)).drew = w2 at *
  clear HS1
  have c3 := HS2.out.hq.cell (i := 3) rfl
  have c1 := HS2.out.hq.cell (i := 1) rfl
  have hf := HS2.out.hq.free
  go_wp2_with (go_at_call 39; refine (HT.out _).mono ?_; rintro e w3 ⟨rfl, rfl⟩)
  go_loopw [5] (fun nv wr => nv = .int .i64 0 ∧ wr = w2) (fun _ _ => 0)
  case atStart => exact ⟨rfl, rfl⟩
  case round =>
    obtain ⟨rfl, rfl⟩ := hrel
    go_wp2_with fail
    go_quiet (fail)
    have HS3 := hx (HS2.out.kept ((Kept.refl [] _).drewN nq))
    have HK3 := hx (HK2.out.trans (KeptT.of ((Kept.refl [] _).drewN nq)))
    clear c3 c1 hf HS2 HK2
    generalize wr.drewN nq = w4 at *
    have c3 := HS3.out.hq.cell (i := 3) rfl
    have hf := HS3.out.hq.free
    go_wp2
    go_loopw [6, 61] (fun ov iv wr => ov = .slice none 0 0 ∧ iv = .int .i64 0 ∧ wr = w4) (fun _ _ _ => 0)
    case atStart => exact ⟨rfl, rfl, rfl⟩
    case round =>
      obtain ⟨rfl, rfl, rfl⟩ := hrel
      go_wp2_with (go_at_call 38; refine (HD.out _).mono ?_; rintro e w3 ⟨rfl, rfl⟩)
      exact HQ.out _ _ HK3.out HS3.out rfl
theorem own_len {w : World} {base : Nat} {e : TypeId} {g n c k : Nat} {xs : List Value} (h : w.ownsRow base e 3 (.slice (some ⟨g, 0, none⟩) n c) k xs) : n = k ∧ k ≤ c := by
  rcases h.2 with ⟨h1, _⟩ | ⟨g', cap, cur, h1, _, _, h2, _⟩
  · simp at h1
  · simp at h1
    omega
set_option maxRecDepth 100000 in
set_option maxHeartbeats 6400000 in
theorem tick_some (q g n cap : Nat) (room now no ticks : Int) (h s : List En) (w : World) (hs : Ts w q (.slice (some ⟨g, 0, none⟩) n cap) room now no h) (hp : Tp h s now no) (hl : h.length ≤ 1000000) :
    Calls Try.prog 25 #[.pointer (some ⟨q, 0, none⟩), .int .i64 ticks] w (TickP w q (.slice (some ⟨g, 0, none⟩) n cap) room now no ticks s) := by
  obtain ⟨rfl, hcap⟩ := own_len hs.own
  have HS := hx hs
  have HP := hx hp
  have HSL := hx hp.len
  have HL := hx hl
  have HST := hx (fun w1 (ho : w1.ownsRow 0 78 3 (.slice (some ⟨g, 0, none⟩) h.length cap) h.length (cel h)) => sort_any _ h s w1 ho hp.perm hp.sorted hp.nos hl)
  have HNL := hx (dueN_le (nowT now ticks) s)
  have HNA := hx (dueN_at (nowT now ticks) s)
  have HNE := hx (dueN_end (nowT now ticks) s)
  have HQ := hx (show ∀ w' v' a c, KeptT w w' q (.slice (some ⟨g, 0, none⟩) h.length cap) v' → Ts w' q v' room (nowT now ticks) no (s.drop (dueN (nowT now ticks) s)) → dueN (nowT now ticks) s ≤ c → Ik w' a ((s.take (dueN (nowT now ticks) s)).map (·.key)) → (∀ g off, a = some ⟨g, off, none⟩ → w.heap.size ≤ g) → v'.ownBlock = (Value.slice (some ⟨g, 0, none⟩) h.length cap).ownBlock → TickP w q (.slice (some ⟨g, 0, none⟩) h.length cap) room now no ticks s (.returned (.slice a (dueN (nowT now ticks) s) c)) w' from fun w' v' a c h1 h2 h3 h4 h5 h6 => ⟨v', a, c, h1, h2, rfl, h3, h4, h5, h6⟩)
  generalize TickP w q (.slice (some ⟨g, 0, none⟩) h.length cap) room now no ticks s = PP at *
  have hn0 := hp.now0
  have HN1 := hx hp.now1
  have c1 := hs.hq.cell (i := 1) rfl
  have hf := hs.hq.free
  have hw1 : IntKind.i64.wrap (1099511627776 - now) = 1099511627776 - now := IntWalk.i64_in _ (by have := HN1.out; omega)
  have hm1 : min now 1099511627776 = now := by have := HN1.out; omega
  have HCAP := hx hcap
  clear hs hp hl hcap
  go_enter Try.func25, Try.ntmps25
  go_upto_region 1 with fail
  go_region
  rw [nowT_eq HN1.out]
  generalize max 0 (min ticks (1099511627776 - now)) = M1 at *
  generalize min ticks (1099511627776 - now) = M2 at *
  have HS1 := hx (HS.out.now1 (nowT now ticks))
  generalize nowT now ticks = N at *
  clear hw1 hm1 c1 hf HS HN1 hn0
  have HS2 := hx (HS1.out.1.kept ((Kept.refl [] _).drew))
  have HK2 := hx (HS1.out.2.trans (KeptT.of ((Kept.refl [] _).drew)))
  generalize (w.setCell ⟨q, 1, none⟩ (.int .i64 N)).drew = w2 at *
  clear HS1
  have c3 := HS2.out.hq.cell (i := 3) rfl
  have HSO := hx (HST.out w2 HS2.out.own)
  clear HST
  go_wp2_with fail
  refine HSO.out.mono ?_
  rintro e w3 ⟨rfl, ho3, hk3⟩
  rw [← HSL.out] at HS2 HK2 HQ HCAP HL ho3 hk3 ⊢
  have HS3 := hx (HS2.out.reown hk3 ho3)
  have HT3 := hx HS3.out.1
  have HK3 := hx (HK2.out.trans HS3.out.2)
  have HSL2 := hx HSL.out
  clear ho3 hk3 c3 HS2 HK2 HS3 HSO HSL
  go_wp2_with fail
  generalize hNd : dueN N s = d at *
  clear hNd
  have hdl : d ≤ s.length := HNL.out
  have hl6 : s.length ≤ 1000000 := HL.out
  have HC := hx (show ∀ w5, Kept [] w3 w5 → ∀ i, i < s.length → w5.cell? ⟨g, i * 3, none⟩ = some (.int .u32 (s.getD i en0).key) ∧ w5.cell? ⟨g, i * 3 + 1, none⟩ = some (.int .i64 (s.getD i en0).due) ∧ w5.cell? ⟨g, i * 3 + 2, none⟩ = some (.int .i64 (s.getD i en0).no) from fun w5 hk i hi => by
    have hc := cel_cells HT3.out.own
    rw [← getD_in hi]
    have e0 := hc i hi 0 _ rfl
    have e1 := hc i hi 1 _ rfl
    have e2 := hc i hi 2 _ rfl
    rw [Nat.zero_add] at e0 e1 e2
    exact ⟨kept_cell hk e0, kept_cell hk e1, kept_cell hk e2⟩)
  go_loopw [5] (fun nv wr => ∃ i : Nat, i ≤ d ∧ nv = .int .i64 i ∧ Kept [] w3 wr) (fun nv _ => d - (intOf nv).toNat)
  case atStart => exact ⟨0, by omega, rfl, Kept.refl _ _⟩
  case round =>
    obtain ⟨i, hi, rfl, hkr⟩ := hrel
    have HKR := hx hkr
    clear hkr
    have c3 := (HT3.out.kept HKR.out).hq.cell (i := 3) rfl
    have c1 := (HT3.out.kept HKR.out).hq.cell (i := 1) rfl
    have hi0 : (0 : Int) ≤ (i : Int) := by omega
    by_cases hlt : i < d
    · have hil : (i : Int) < (s.length : Int) := by omega
      have hild : decide (i < s.length) = true := decide_eq_true (by omega)
      have e1 := (HC.out wr HKR.out i (by omega)).2.1
      have hdd := decide_eq_true (HNA.out i hlt)
      generalize (s.getD i en0).due = y at *
      go_wp2_with fail
      go_quiet (fail)
      have HKN := hx (HKR.out.trans0 ((Kept.refl [] wr).drewN nq))
      clear c3 c1 e1 HKR
      go_wp2
      go_roundw
      case rel => exact ⟨i + 1, by omega, by go_num, HKN.out⟩
      case measure => simp [intOf] <;> omega
    · have hid : i = d := by omega
      subst hid
      go_upto_region 4 with fail
      go_cut [51] (fun s51 wx => s51 = .bool false ∧ Kept [] wr wx)
      case first =>
        by_cases hls : i < s.length
        · have hil : (i : Int) < (s.length : Int) := by omega
          have hild : decide (i < s.length) = true := decide_eq_true hls
          have e1 := (HC.out wr HKR.out i hls).2.1
          have hdd := (show decide ((s.getD i en0).due ≤ N) = false from decide_eq_false (by have := HNE.out hls; omega))
          generalize (s.getD i en0).due = y at *
          go_quiet (fail)
          have HKN := hx ((Kept.refl [] wr).drewN nq)
          go_wp2_with fail
          go_meet
          exact ⟨rfl, HKN.out⟩
        · have hild : decide (i < s.length) = false := decide_eq_false hls
          go_quiet (fail)
          have HKN := hx ((Kept.refl [] wr).drewN nq)
          go_wp2_with fail
          go_meet
          exact ⟨rfl, HKN.out⟩
      case rest =>
        obtain ⟨rfl, hkx⟩ := hcut
        have HK4 := hx (HKR.out.trans0 hkx)
        clear hkx HKR c3 c1 HNA HNE
        have c3 := (HT3.out.kept HK4.out).hq.cell (i := 3) rfl
        have hil : (i : Int) ≤ (s.length : Int) := by omega
        have hic : (i : Int) ≤ (cap : Int) := by have := HCAP.out; omega
        go_wp2_with fail
        have HW := hx (show w.heap.size ≤ wc.heap.size by have h1 := HK4.out.size; have h2 := HK3.out.1.size; omega)
        go_loopw [6, 61] (fun ov iv wr => ∃ (j : Nat) (u : Value), j ≤ i ∧ iv = .int .i64 j ∧ u = ov ∧ wr.ownsRow w3.heap.size 31 1 u j (ik1 ((s.take j).map (·.key))) ∧ Kept [] w3 wr) (fun _ iv _ => i - (intOf iv).toNat)
        case atStart => exact ⟨0, _, by omega, rfl, rfl, World.ownsRow_nil _ _ _ _, HK4.out⟩
        case round =>
          clear HK4
          obtain ⟨j, u, hj, rfl, rfl, ho, hk⟩ := hrel
          have HO := hx ho
          have HK := hx hk
          clear ho hk
          by_cases hlt : j < i
          · have hji : (j : Int) < (i : Int) := by omega
            have hjs : j < s.length := by omega
            have hj0 : (0 : Int) ≤ (j : Int) := by omega
            obtain ⟨e0, e1, e2⟩ := HC.out wr HK.out j hjs
            have HTK := hx (show (s.take (j + 1)).map (·.key) = (s.take j).map (·.key) ++ [(s.getD j en0).key] by rw [take_succ_en hjs, List.map_append]; rfl)
            have HSZ := hx (show w3.heap.size ≤ wr.heap.size from HK.out.size)
            generalize s.getD j en0 = x at *
            generalize (s.take j).map (·.key) = L at *
            have HBN := hx (show Blk ((wr.alloc (.cells #[.int .u32 x.key, .int .i64 x.due, .int .i64 x.no] 78)).alloc (.cells #[.int .u32 x.key] 31)) (wr.heap.size + 1) [.int .u32 x.key] 31 by
              have h1 := Blk.new (wr.alloc (.cells #[.int .u32 x.key, .int .i64 x.due, .int .i64 x.no] 78)) [.int .u32 x.key] 31
              rw [World.size_alloc] at h1
              exact h1)
            go_wp2_with (first
              | (at_builtin; refine wpList_app rfl (.tmp 65) (.tmp 68) 37 rfl w3.heap.size 31 (.int .u32 0) 1 4 infoInt Try.underlying37 rfl (by omega) u j (ik1 L) rfl (World.ownsRow.alloc (World.ownsRow.alloc HO.out _) _) (some ⟨_, 0, none⟩) 1 1 [.int .u32 x.key] rfl rfl (by simp) (by omega) (blk_news HBN.out) (by intro v hv; simp at hv; subst hv; rfl) (by unfold maxLen; omega) (by omega) (by have := HSZ.out; simp; omega) ?_; intro u2 w8 ho8 hg8; have HK8 := hx (kept_own ((HK.out.alloc _).alloc _) ((Kept.refl u.ownBlock.toList _).grown hg8 (fun k e => .inl (by simp [e]))) (fun y hy => (HO.out.lt y (by simpa using hy)).1)); have HO8 := hx ho8; clear ho8 hg8))
            rw [← ik1_snoc, ← HTK.out] at HO8
            go_wp2
            go_roundw
            case rel => exact ⟨j + 1, u2, by omega, by go_num, rfl, HO8.out, HK8.out⟩
            case measure => simp [intOf] <;> omega
          · have hji : j = i := by omega
            subst hji
            clear HC
            have HT5 := hx (HT3.out.kept HK.out)
            have HK5 := hx (HK3.out.trans (KeptT.of HK.out))
            have c3 := HT5.out.hq.cell (i := 3) rfl
            have HD := hx (show Calls Try.prog 38 #[.slice (some ⟨g, 0, none⟩) s.length cap, .int .i64 0, .int .i64 j] wr _ from del_any (.slice (some ⟨g, 0, none⟩) s.length cap) s 0 j wr HT5.out.own (by omega) hdl)
            go_wp2_with fail
            refine HD.out.mono ?_
            rintro e w6 ⟨v', rfl, ho6, hv, hk6⟩
            rw [List.take_zero, List.nil_append] at ho6
            generalize s.drop j = L at *
            obtain ⟨a', c', rfl⟩ := own_slice ho6
            have HB6 := hx (hk6.blk HT5.out.hq (by simp only [Option.mem_toList]; exact HT5.out.ne))
            have d3 := HB6.out.cell (i := 3) rfl
            have df := HB6.out.free
            have HF := hx (HT5.out.put hk6 ho6 (.inl hv))
            have HVV := hx hv
            obtain ⟨hol, a, c, rfl, hcc, hik, hnew⟩ := ik_form HO.out
            have HI := hx (And.intro hik (And.intro hcc hnew))
            have HK6 := hx (hk6.mono (cs := q :: (Value.slice (some ⟨g, 0, none⟩) s.length cap).ownBlock.toList) (fun x hx => .inl (List.mem_cons_of_mem _ hx)))
            have HK7 := hx (HK6.out.setCell (p := ⟨q, 3, none⟩) (.inl (by simp)) (.slice a' L.length c'))
            have HGL := hx (And.intro (HT3.out.own.lt g rfl).2 HT3.out.hq.lt)
            clear hk6 ho6 hv c3 hik hcc hnew hol
            go_wp2
            refine HQ.out _ _ _ _ (HK5.out.trans HF.out.2) HF.out.1 HI.out.2.1 (HI.out.1.frame HK7.out ?_) ?_ HVV.out
            · intro g' off e
              have h1 := HI.out.2.2 g' off e
              have h2 := HGL.out
              simp [Value.ownBlock]
              omega
            · intro g' off e
              have h1 := HI.out.2.2 g' off e
              have h2 := HK3.out.1.size
              omega
theorem tick_any (q : Nat) (v : Value) (room now no ticks : Int) (h s : List En) (w : World) (hs : Ts w q v room now no h) (hp : Tp h s now no) (hl : h.length ≤ 1000000) :
    Calls Try.prog 25 #[.pointer (some ⟨q, 0, none⟩), .int .i64 ticks] w (TickP w q v room now no ticks s) := by
  rcases hs.own.2 with ⟨rfl, h0⟩ | ⟨g, cap, cur, rfl, _⟩
  · obtain rfl : h = [] := List.eq_nil_of_length_eq_zero h0
    obtain rfl : s = [] := List.eq_nil_of_length_eq_zero (by simpa using hp.len)
    exact tick_nil q 0 room now no ticks w hs hp
  · exact tick_some q g h.length cap room now no ticks h s w hs hp hl
end Go.Proofs.Yteobkcmfpmolmaa
