/- word, field and numbers of the program. -/
import Derived.Test.YtdfbofkdlgfblaaDoorScF
import Derived.Test.YtdfbofkdlgfblaaDoorScQ
namespace Go.Proofs.YtdfbofkdlgfblaaDoor
open Go Go.RowKit
set_option maxRecDepth 100000 in
set_option maxHeartbeats 3200000 in
/-- The word of a kind. -/
theorem word_any (k : Int) (w : World) : Calls Tryd.prog 25 #[.int .i64 k] w fun e w' => e = .returned (.tuple #[txt (wordL k), txt (fldL k)]) ∧ w' = w := by
  by_cases hin : 1 ≤ k ∧ k ≤ 8
  · rcases kind_cases hin.1 hin.2 with rfl | rfl | rfl | rfl | rfl | rfl | rfl | rfl
    all_goals
      go_enter Tryd.func25, Tryd.ntmps25
      go_wp2
      go_ret2
      exact ⟨rfl, rfl⟩
  · have hw : wordL k = [] := by
      cases h : wordL k with
      | nil => rfl
      | cons c r => exact absurd (word_kind (by rw [h]; simp)) hin
    have hf : fldL k = [] := by
      unfold fldL
      repeat' split
      all_goals first | omega | rfl
    have h1 : (k == 1) = false := by simp; omega
    have h2 : (k == 2) = false := by simp; omega
    have h3 : (k == 3) = false := by simp; omega
    have h4 : (k == 4) = false := by simp; omega
    have h5 : (k == 5) = false := by simp; omega
    have h6 : (k == 6) = false := by simp; omega
    have h7 : (k == 7) = false := by simp; omega
    have h8 : (k == 8) = false := by simp; omega
    rw [hw, hf]
    clear hw hf hin
    go_enter Tryd.func25, Tryd.ntmps25
    go_wp2
    go_ret2
    exact ⟨rfl, rfl⟩
set_option maxRecDepth 100000 in
set_option maxHeartbeats 3200000 in
/-- Where a field lies. -/
theorem field_any (b : Nat) (c : UInt8) (w : World) : Calls Tryd.prog 26 #[.pointer (some ⟨b, 0, none⟩), .int .u8 (c.toNat : Int)] w fun e w' => e = .returned (.pointer (some ⟨b, cellN c, none⟩)) ∧ w' = w := by
  by_cases h1 : c = 119
  · subst h1
    go_enter Tryd.func26, Tryd.ntmps26
    go_wp2
    go_ret
    exact ⟨rfl, rfl⟩
  by_cases h2 : c = 97
  · subst h2
    go_enter Tryd.func26, Tryd.ntmps26
    go_wp2
    go_ret
    exact ⟨rfl, rfl⟩
  by_cases h3 : c = 98
  · subst h3
    go_enter Tryd.func26, Tryd.ntmps26
    go_wp2
    go_ret
    exact ⟨rfl, rfl⟩
  by_cases h4 : c = 99
  · subst h4
    go_enter Tryd.func26, Tryd.ntmps26
    go_wp2
    go_ret
    exact ⟨rfl, rfl⟩
  have hne : ∀ d : UInt8, c ≠ d → ((c.toNat : Int) == (d.toNat : Int)) = false := by
    intro d hd
    simp
    intro h
    exact hd (UInt8.toNat_inj.1 (by omega))
  have g1 : ((c.toNat : Int) == 119) = false := hne 119 h1
  have g2 : ((c.toNat : Int) == 97) = false := hne 97 h2
  have g3 : ((c.toNat : Int) == 98) = false := hne 98 h3
  have g4 : ((c.toNat : Int) == 99) = false := hne 99 h4
  have HC := hx (show cellN c = 5 by unfold cellN; rw [if_neg h1, if_neg h2, if_neg h3, if_neg h4])
  clear h1 h2 h3 h4 hne
  go_enter Tryd.func26, Tryd.ntmps26
  go_wp2
  go_ret
  exact ⟨by rw [HC.out]; rfl, rfl⟩
theorem own_kept0 {w w2 : World} {base size : Nat} {e : TypeId} {v : Value} {n : Nat} {xs : List Value} (h : w.ownsRow base e size v n xs) (hk : Kept [] w w2) : w2.ownsRow base e size v n xs := by
  refine ⟨h.1, ?_⟩
  rcases h.2 with h0 | ⟨g, cap, cur, hv, hb, hg, h4⟩
  · exact .inl h0
  · exact .inr ⟨g, cap, cur, hv, hb, by rw [hk.block g (lt_of_block hg) (by simp)]; exact hg, h4⟩
def ints (l : List Int) : List Value := l.map (Value.int .i64)
theorem ints_snoc (l : List Int) (n : Int) : ints (l ++ [n]) = ints l ++ [.int .i64 n] := by simp [ints]
theorem infoI : (Tryd.prog.info? 3).map (fun i => (i.zero, i.size, i.bytes)) = some (some (.int .i64 0), 1, 8) := by kernel_rfl
def txts (ws : List (List UInt8)) : List Value := ws.map fun l => txt l
/-- What numbers answers. -/
def NumQ (o : Option (List Int)) (w w' : World) (e : Ending) : Prop :=
  Kept [] w w' ∧ match o with
    | some ns => ∃ u, e = .returned (.tuple #[u, .bool true]) ∧ w'.ownsRow w.heap.size 3 1 u ns.length (ints ns)
    | none => e = .returned (.tuple #[.slice none 0 0, .bool false])
theorem txts_get {ws : List (List UInt8)} {i : Nat} {x : List UInt8} (h : ws[i]? = some x) : (txts ws)[i]? = some (txt x) := by
  unfold txts
  rw [List.getElem?_map, h]
  rfl
/-- Where the reading stands. -/
def NmI (ws : List (List UInt8)) (i : Nat) (ns : List Int) : Prop := readAll (ws.take i) = some ns ∧ ns.length = i ∧ i ≤ ws.length
theorem NmI.next {ws : List (List UInt8)} {i : Nat} {ns : List Int} {x : List UInt8} (h : NmI ws i ns) (hx : ws[i]? = some x) (ho : (progR x).2 = true) : NmI ws (i + 1) (ns ++ [(progR x).1]) := by
  obtain ⟨hi, rfl⟩ := List.getElem?_eq_some_iff.1 hx
  refine ⟨?_, by simp [h.2.1], hi⟩
  rw [List.take_succ_eq_append_getElem hi, readAll_snoc h.1, if_pos ho]
theorem NmI.bad {ws : List (List UInt8)} {i : Nat} {ns : List Int} {x : List UInt8} (h : NmI ws i ns) (hx : ws[i]? = some x) (ho : ¬ (progR x).2 = true) : readAll ws = none := by
  obtain ⟨hi, rfl⟩ := List.getElem?_eq_some_iff.1 hx
  have h1 : readAll (ws.take (i + 1)) = none := by rw [List.take_succ_eq_append_getElem hi, readAll_snoc h.1, if_neg ho]
  have h2 := readAll_none (ws.drop (i + 1)) h1
  rwa [List.take_append_drop] at h2
set_option maxRecDepth 100000 in
set_option maxHeartbeats 6400000 in
theorem numbers_no (bw n : Nat) (many : Nat) (w : World) (hm : many ≤ 4) (hne : n ≠ many + 1) :
    Calls Tryd.prog 31 #[.slice (some ⟨bw, 0, none⟩) n n, .int .i64 (many : Int)] w fun e w' => NumQ none w w' e := by
  have h1 : ((n : Int) != (many : Int) + 1) = true := by simp; omega
  clear hne
  go_enter Tryd.func31, Tryd.ntmps31
  go_wp2
  go_ret2
  exact ⟨Kept.refl _ _, rfl⟩
set_option maxRecDepth 100000 in
set_option maxHeartbeats 6400000 in
theorem numbers_none (bw : Nat) (w : World) :
    Calls Tryd.prog 31 #[.slice (some ⟨bw, 0, none⟩) 1 1, .int .i64 0] w fun e w' => e = .returned (.tuple #[.slice none 0 0, .bool true]) ∧ w' = w := by
  go_enter Tryd.func31, Tryd.ntmps31
  go_wp2_with fail
  go_loopw [6, 19] (fun u i wr => u = .slice none 0 0 ∧ i = .int .i64 0 ∧ wr = w) (fun _ _ _ => 0)
  case atStart => exact ⟨rfl, rfl, rfl⟩
  case round =>
    obtain ⟨rfl, rfl, rfl⟩ := hrel
    go_wp2_with fail
    go_ret2
    exact ⟨rfl, rfl⟩
set_option maxRecDepth 100000 in
set_option maxHeartbeats 6400000 in
theorem numbers_some (bw n m : Nat) (w0 : List UInt8) (ws : List (List UInt8)) (w : World) (hb : Blk w bw (txts (w0 :: ws)) 9) (hm : m ≤ 4) (h0 : 0 < m) (hl : ws.length = m) (hn : n = m + 1) :
    Calls Tryd.prog 31 #[.slice (some ⟨bw, 0, none⟩) n n, .int .i64 (m : Int)] w fun e w' => NumQ (readAll ws) w w' e := by
  have h1 : ((n : Int) != (m : Int) + 1) = false := by simp; omega
  have hn1 : 1 < n := by omega
  have HB := hx hb
  have HL := hx hl
  have HN := hx hn
  have H0 := hx h0
  clear hb hl h0 hn
  go_enter Tryd.func31, Tryd.ntmps31
  go_wp2_with fail
  go_loopw [6, 19] (fun u iv wr => ∃ (v : Value) (i : Nat) (ns : List Int), u = v ∧ iv = .int .i64 (i : Int) ∧ NmI ws i ns ∧ wr.ownsRow w.heap.size 3 1 v ns.length (ints ns) ∧ Kept [] w wr) (fun _ iv _ => m - (intOf iv).toNat)
  case atStart => exact ⟨_, 0, [], rfl, rfl, ⟨rfl, rfl, Nat.zero_le _⟩, World.ownsRow_nil _ _ _ _, Kept.refl _ _⟩
  case round =>
    obtain ⟨v, i, ns, rfl, rfl, hi, ho, hk⟩ := hrel
    have HI := hx hi
    have HO := hx ho
    have HK := hx hk
    have HIL := hx hi.2
    by_cases hlt : i < m
    · have hil : (i : Int) < (n : Int) - 1 := by have := HN.out; omega
      obtain ⟨x, hxx⟩ : ∃ x, ws[i]? = some x := ⟨_, List.getElem?_eq_getElem (by have := HL.out; omega)⟩
      have HX := hx hxx
      have hcl : wr.cell? ⟨bw, 1 + i, none⟩ = some (txt x) := by
        have h := (HK.out.blk HB.out (by simp)).cell (i := i + 1) (txts_get (ws := w0 :: ws) (by simpa using hxx))
        rw [Nat.add_comm]
        exact h
      have HRD := hx (read_any x wr)
      have HLT := hx hlt
      have hsz : i < 4 := by omega
      have HSZ := hx hsz
      clear hi ho hk hlt hxx
      by_cases hok : (progR x).2 = true
      · have HNX := hx (HI.out.next HX.out hok)
        rw [hok] at HRD
        go_wp2_with (first
          | (go_at_call 10; refine HRD.out.mono ?_; rintro e w1 ⟨rfl, hk1⟩; have HK1 := hx (HK.out.trans0 hk1); have HO1 := hx (own_kept0 HO.out hk1); clear hk1)
          | (at_builtin; refine wpList_app rfl (.tmp 30) (.tmp 32) 65 rfl w.heap.size 3 (.int .i64 0) 1 8 infoI Tryd.underlying65 rfl (by omega) u6 ns.length (ints ns) rfl (World.ownsRow.alloc HO1.out _) (some ⟨_, 0, none⟩) 1 1 [.int .i64 (progR x).1] rfl rfl (by simp) (by omega) (newsB (Blk.new _ [.int .i64 (progR x).1] 3)) (by intro v hv; simp at hv; subst hv; rfl) (by have h1 := HIL.out.1; have h2 := HSZ.out; simp [maxLen]; omega) (by have h1 := HIL.out.1; have h2 := HSZ.out; omega) (by have h1 := HK1.out.size; simp; omega) ?_; intro u2 w8 ho8 hg8; have HO8 := hx ho8; have HK8 := hx ((HK1.out.alloc _).grown hg8 (fun q hq => .inr (HO1.out.lt q hq).1)); clear ho8 hg8))
        go_roundw
        case rel => exact ⟨u2, i + 1, ns ++ [(progR x).1], rfl, by simp, HNX.out, by rw [ints_snoc, List.length_append]; exact HO8.out, HK8.out⟩
        case measure =>
          simp only [intOf]
          have h := HLT.out
          omega
      · have HNO := hx (HI.out.bad HX.out hok)
        have hb : (progR x).2 = false := by simpa using hok
        rw [hb] at HRD
        clear hok
        go_wp2_with (go_at_call 10; refine HRD.out.mono ?_; rintro e w1 ⟨rfl, hk1⟩; have HK1 := hx (HK.out.trans0 hk1); clear hk1)
        go_ret2
        rw [HNO.out]
        exact ⟨HK1.out, rfl⟩
    · have hil : ¬ (i : Int) < (n : Int) - 1 := by have := HN.out; omega
      have HE := hx (show readAll ws = some ns by
        have h1 := HI.out.1
        rw [List.take_of_length_le (by have := HL.out; omega)] at h1
        exact h1)
      clear hi ho hk hlt
      go_wp2_with fail
      go_ret2
      rw [HE.out]
      exact ⟨HK.out, u6, rfl, HO.out⟩
theorem numbers_any (bw : Nat) (w0 : List UInt8) (ws : List (List UInt8)) (many : Nat) (w : World) (hb : Blk w bw (txts (w0 :: ws)) 9) (hm : many ≤ 4) :
    Calls Tryd.prog 31 #[.slice (some ⟨bw, 0, none⟩) (ws.length + 1) (ws.length + 1), .int .i64 (many : Int)] w fun e w' => NumQ (if ws.length = many then readAll ws else none) w w' e := by
  by_cases h : ws.length = many
  · rw [if_pos h]
    by_cases h0 : many = 0
    · subst h0
      have hw : ws = [] := List.eq_nil_of_length_eq_zero h
      subst hw
      exact (numbers_none bw w).mono fun e w' h => by obtain ⟨rfl, rfl⟩ := h; exact ⟨Kept.refl _ _, _, rfl, World.ownsRow_nil _ _ _ _⟩
    · exact numbers_some bw (ws.length + 1) many w0 ws w hb hm (by omega) h (by omega)
  · rw [if_neg h]
    exact numbers_no bw (ws.length + 1) many w hm (by omega)
end Go.Proofs.YtdfbofkdlgfblaaDoor
