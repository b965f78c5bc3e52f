/- ParseLine of the program. -/
import Derived.Test.YtdfbofkdlgfblaaDoorScG
import Derived.Test.YtdfbofkdlgfblaaDoorL2
namespace Go.Proofs.YtdfbofkdlgfblaaDoor
open Go Go.RowKit
theorem count_len (s : ByteArray) : Lib.countB s { data := #[32] } + 1 = (splitL s.data.toList).length := by
  have h1 := Lib.splitB_all { data := #[32] } (by decide) 0 _ s rfl
  rw [← h1, ← split_cells, List.length_map]
theorem split_txts (s : ByteArray) : (Lib.splitB { data := #[32] } 0 (Lib.countB s { data := #[32] }) s).map Value.string = txts (splitL s.data.toList) := by
  rw [← split_cells]
  unfold txts
  rw [List.map_map]
  apply List.map_congr_left
  intro x _
  simp
/-- strings.Split at a blank. -/
theorem splits_any (l : List UInt8) (m : Int) (w : World) (hl : l.length < 4294967281) (hm : w.cell? ⟨0, 0, none⟩ = some (.int .i64 m)) :
    Calls Tryd.prog 30 #[txt l, .string { data := #[32] }] w fun e w' => ∃ bw, e = .returned (.slice (some ⟨bw, 0, none⟩) (splitL l).length (splitL l).length) ∧ w.heap.size ≤ bw ∧ Blk w' bw (txts (splitL l)) 9 ∧ Kept [] w w' := by
  refine (strings_Split ⟨l.toArray⟩ { data := #[32] } m w (by rw [txt_size]; exact hl) hm (by decide)).mono ?_
  rintro e w' ⟨rfl, rfl⟩
  refine ⟨w.heap.size, ?_, Nat.le_refl _, ?_, (Kept.refl _ _).alloc _⟩
  · rw [count_len]
  · rw [split_txts]
    exact Blk.new' _ _ _
/-- What ParseLine answers. -/
def actV (x : List Int) : Value := .agg (ints x).toArray
def resV : Option (List Int) → Value
  | some x => .tuple #[actV x, .bool true]
  | none => .tuple #[actV (base6 0), .bool false]
theorem putF_len : ∀ (fs : List UInt8) (ns x : List Int), (putF x fs ns).length = x.length
  | [], ns, x => by simp [putF]
  | f :: fs, [], x => by simp [putF]
  | f :: fs, n :: ns, x => by rw [putF, putF_len]; simp
theorem putF_snoc : ∀ (fs : List UInt8) (ns x : List Int) (f : UInt8) (n : Int), fs.length = ns.length → putF x (fs ++ [f]) (ns ++ [n]) = (putF x fs ns).set (cellN f) n
  | [], [], x, f, n, _ => rfl
  | [], _ :: _, _, _, _, h => by simp at h
  | _ :: _, [], _, _, _, h => by simp at h
  | g :: fs, m :: ns, x, f, n, h => by
    rw [List.cons_append, List.cons_append, putF, putF, putF_snoc fs ns _ f n (by simpa using h)]
theorem ints_set (x : List Int) (i : Nat) (n : Int) : (ints x).set i (.int .i64 n) = ints (x.set i n) := by
  unfold ints
  rw [List.map_set]
theorem ints_get {x : List Int} {i : Nat} {n : Int} (h : x[i]? = some n) : (ints x)[i]? = some (.int .i64 n) := by
  unfold ints
  rw [List.getElem?_map, h]
  rfl
theorem ints_len (x : List Int) : (ints x).length = x.length := by simp [ints]
theorem ints_one (x : List Int) : ∀ v ∈ ints x, v.oneCell' = true := by
  intro v hv
  obtain ⟨n, _, rfl⟩ := List.mem_map.1 hv
  rfl
theorem cell_lt (c : UInt8) : cellN c < 6 := by
  unfold cellN
  repeat' split
  all_goals omega
theorem infoAct : (Tryd.prog.info? 28).map (·.size) = some 6 := by kernel_rfl
theorem infoAct' (x : List Int) (h : x.length = 6) : (Tryd.prog.info? 28).map (·.size) = some (ints x).length := by rw [infoAct, ints_len, h]
theorem NumQ.cons {w w' : World} {e : Ending} {ns : List Int} (h : NumQ (some ns) w w' e) (hn : ns ≠ []) : ∃ g cap cur, e = .returned (.tuple #[.slice (some ⟨g, 0, none⟩) ns.length cap, .bool true]) ∧ w.heap.size ≤ g ∧ Blk w' g cur 3 ∧ cur.take ns.length = ints ns ∧ Kept [] w w' := by
  obtain ⟨hk, u, rfl, ho⟩ := h
  obtain ⟨g, cap, cur, rfl, hb, hB, ht, _⟩ := own_blk1 ho (List.length_pos_iff.2 hn)
  exact ⟨g, cap, cur, rfl, hb, hB, ht, hk⟩
set_option maxRecDepth 100000 in
set_option maxHeartbeats 6400000 in
theorem parse_any (l : List UInt8) (m : Int) (w : World) (hl : l.length < 4294967281) (hm : w.cell? ⟨0, 0, none⟩ = some (.int .i64 m)) :
    Calls Tryd.prog 15 #[txt l] w fun e w' => e = .returned (resV (parseL l)) ∧ Kept [] w w' := by
  have HS := hx (fun w1 (hk : Kept [] w w1) => splits_any l m w1 hl (by rw [hk.cell (World.block_lt_of_cell? _ _ hm) (by simp)]; exact hm))
  clear hm hl
  obtain ⟨w0, ws, hsp⟩ : ∃ w0 ws, splitL l = w0 :: ws := by
    cases h : splitL l with
    | nil => exact absurd h (splitL_ne l)
    | cons a b => exact ⟨a, b, rfl⟩
  have HP := hx (show parseL l = match kindOf w0 with | some k => parseK k ws | none => none by unfold parseL; rw [hsp]; rfl)
  rw [hsp] at HS
  clear hsp
  go_enter Tryd.func15, Tryd.ntmps15
  go_upto_region 2 with (go_at_call 30; refine (HS.out _ ((Kept.refl _ _).alloc _)).mono ?_; rintro e w1 ⟨bw, rfl, hbw, hB, hk⟩)
  have HK1 := hx (((Kept.refl [] w).alloc (.cells #[.int .i64 0, .int .i64 0, .int .i64 0, .int .i64 0, .int .i64 0, .int .i64 0] 28)).trans0 hk)
  have HA0 := hx (hk.blk (Blk.new w (ints (base6 0)) 28) (by simp))
  have HB := hx hB
  have HBW := hx (show w.heap.size < bw by simp at hbw; omega)
  have hc0 := hB.cell (i := 0) (v := txt w0) rfl
  clear hB hk hbw HS
  go_wp2_with fail
  go_loopw [5] (fun kv wr => ∃ k : Int, kv = .int .i64 k ∧ 1 ≤ k ∧ k ≤ 9 ∧ (∀ j : Int, 1 ≤ j → j < k → wordL j ≠ w0) ∧ wr = w1) (fun kv _ => (10 - intOf kv).toNat)
  case atStart => exact ⟨1, rfl, by omega, by omega, fun j h1 h2 => by omega, rfl⟩
  case round =>
    obtain ⟨k, rfl, hk1, hk9, hne, rfl⟩ := hrel
    have HNE := hx hne
    have HKB := hx (And.intro hk1 hk9)
    clear hne
    by_cases h8 : k ≤ 8
    · have HW := hx (word_any k wr)
      by_cases hw : wordL k = w0
      · have HPK := hx (HP.out.trans (by rw [← hw, kindOf_word hk1 h8]))
        subst hw
        have HNUM := hx (numbers_any bw (wordL k) ws (fldL k).length wr HB.out (fld_len k))
        cases ho : (if ws.length = (fldL k).length then readAll ws else none) with
        | none =>
          rw [ho] at HNUM
          have HR := hx (show parseL l = none by
            have h := HPK.out
            simp only [parseK] at h
            rw [h]
            by_cases hh : ws.length = (fldL k).length
            · rw [if_pos hh] at ho ⊢; rw [ho]
            · rw [if_neg hh])
          clear ho
          go_wp2_with (first
            | (go_at_call 25; refine HW.out.mono ?_; rintro e w2 ⟨rfl, rfl⟩)
            | (go_at_call 31; refine HNUM.out.mono ?_; rintro e w3 ⟨hk3, rfl⟩; have HK3 := hx hk3; have HA3 := hx (hk3.blk HA0.out (by simp)); clear hk3)
            | (refine store_blk rfl 28 (.tmp 2) (.tmp 38) rfl w.heap.size rfl 28 _ (ints (base6 0)) rfl HA3.out rfl (infoAct' _ rfl) (ints_one _) ?_; intro w4 hb4 hk4; have HB4 := hx hb4; have HK4 := hx hk4; clear hb4 hk4))
          exact bodyPost_ret (ret_blk2 rfl _ w.heap.size _ _ _ _ rfl rfl HB4.out Tryd.underlying28 rfl (infoAct' _ rfl)) rfl ⟨by rw [HR.out]; rfl, (HK1.out.trans0 HK3.out).trans HK4.out (fun _ h => h) (fun x h => by simp at h; subst h; exact .inr (Nat.le_refl _))⟩
        | some ns =>
          rw [ho] at HNUM
          have hlen : ws.length = (fldL k).length := by
            by_cases hh : ws.length = (fldL k).length
            · exact hh
            · rw [if_neg hh] at ho; simp at ho
          rw [if_pos hlen] at ho
          have HR := hx (show parseL l = some (putF (base6 k) (fldL k) ns) by
            have h := HPK.out
            simp only [parseK] at h
            rw [h, if_pos hlen, ho])
          have HNL := hx (show ns.length = (fldL k).length by rw [(readAll_some ho).1, hlen])
          have HNLW := hx hlen
          clear ho hlen
          by_cases hz : ns = []
          · have h8e : k = 8 := by
              have h := HNL.out
              rw [hz] at h
              rcases kind_cases hk1 h8 with rfl | rfl | rfl | rfl | rfl | rfl | rfl | rfl <;> first | rfl | (simp [fldL] at h)
            subst h8e
            subst hz
            have hws : ws = [] := by
              have h := HNLW.out
              exact List.eq_nil_of_length_eq_zero (by rw [h]; rfl)
            subst hws
            have HN0 := hx (numbers_none bw wr)
            clear HNUM
            go_upto_region 11 with (first
              | (go_at_call 25; refine HW.out.mono ?_; rintro e w2 ⟨rfl, rfl⟩)
              | (go_at_call 31; refine HN0.out.mono ?_; rintro e w3 ⟨rfl, rfl⟩)
              | (refine store_blk rfl 28 (.tmp 10) (.tmp 40) rfl _ rfl 28 _ (ints (base6 8)) rfl (Blk.new _ (ints (base6 0)) 28) rfl (infoAct' _ rfl) (ints_one _) ?_; intro w4 hb4 hk4; have HB4 := hx hb4; have HK4 := hx hk4; clear hb4 hk4))
            have HG4 := hx ((Kept.alloc (Kept.refl [] w3) (.cells #[.int .i64 0, .int .i64 0, .int .i64 0, .int .i64 0, .int .i64 0, .int .i64 0] 28)).trans HK4.out (ds := [w3.heap.size]) (fun _ h => by simp at h) (fun _ h => .inl h))
            have HLT3 := hx (HA0.out.lt)
            have HA4 := hx (HG4.out.blk HA0.out (by have := HLT3.out; simp; omega))
            have HKW := hx (HK1.out.trans HG4.out (ds := []) (fun _ h => h) (fun x h => by simp at h; subst h; exact .inr HK1.out.size))
            clear HK4 HG4 HLT3 HN0 HW
            generalize w3.heap.size = a1 at *
            go_wp2_with fail
            go_loopw [43] (fun iv wx => iv = .int .i64 0 ∧ wx = w4) (fun _ _ => 0)
            case atStart => exact ⟨rfl, rfl⟩
            case round =>
              obtain ⟨rfl, rfl⟩ := hrel
              go_wp2_with (first
                | (refine load_blk rfl 28 (.tmp 10) rfl a1 rfl 28 _ _ HB4.out Tryd.underlying28 rfl (infoAct' _ rfl) ?_)
                | (refine store_blk rfl 28 (.tmp 2) (.tmp 55) rfl w.heap.size rfl 28 _ (ints (base6 8)) rfl HA4.out rfl (infoAct' _ rfl) (ints_one _) ?_; intro w6 hb6 hk6; have HB6 := hx hb6; have HK6 := hx hk6; clear hb6 hk6))
              exact bodyPost_ret (ret_blk2 rfl _ w.heap.size _ _ _ _ rfl rfl HB6.out Tryd.underlying28 rfl (infoAct' _ rfl)) rfl ⟨by rw [HR.out]; rfl, HKW.out.trans HK6.out (fun _ h => h) (fun x h => by simp at h; subst h; exact .inr (Nat.le_refl _))⟩
          · have HZ := hx hz
            clear hz
            go_upto_region 11 with (first
              | (go_at_call 25; refine HW.out.mono ?_; rintro e w2 ⟨rfl, rfl⟩)
              | (go_at_call 31; refine HNUM.out.mono ?_; rintro e w3 h3; obtain ⟨g, cap, cur, rfl, hg, hB3, htk, hk3⟩ := h3.cons HZ.out; have HK3 := hx hk3; have HA3 := hx (hk3.blk HA0.out (by simp)); have HB3 := hx hB3; have HTK := hx htk; have HG := hx hg; clear hk3 h3 hB3 htk hg)
              | (refine store_blk rfl 28 (.tmp 10) (.tmp 40) rfl w3.heap.size rfl 28 _ (ints (base6 k)) rfl (Blk.new w3 (ints (base6 0)) 28) rfl (infoAct' _ rfl) (ints_one _) ?_; intro w4 hb4 hk4; have HB4 := hx hb4; have HK4 := hx hk4; clear hb4 hk4))
            have HG4 := hx ((Kept.alloc (Kept.refl [] w3) (.cells #[.int .i64 0, .int .i64 0, .int .i64 0, .int .i64 0, .int .i64 0, .int .i64 0] 28)).trans HK4.out (ds := [w3.heap.size]) (fun _ h => by simp at h) (fun _ h => .inl h))
            have HLT3 := hx (And.intro HA3.out.lt HB3.out.lt)
            have HA4 := hx (HG4.out.blk HA3.out (by have := HLT3.out.1; simp; omega))
            have HC4 := hx (HG4.out.blk HB3.out (by have := HLT3.out.2; simp; omega))
            have HKW := hx ((HK1.out.trans0 HK3.out).trans HG4.out (ds := []) (fun _ h => h) (fun x h => by simp at h; subst h; exact .inr (Nat.le_trans HK1.out.size HK3.out.size)))
            have HA1 := hx (show w.heap.size ≤ w3.heap.size ∧ w3.heap.size ≠ w.heap.size ∧ w3.heap.size ≠ g from ⟨Nat.le_trans HK1.out.size HK3.out.size, by have := HLT3.out.1; omega, by have := HLT3.out.2; omega⟩)
            clear HK4 HG4 HLT3 HA3 HB3 HK3 HG HNUM HW
            generalize w3.heap.size = a1 at *
            generalize hfs : fldL k = fs at *
            have HFS := hx hfs
            clear hfs
            have hn4 : ns.length ≤ 4 := by rw [HNL.out, ← HFS.out]; exact fld_len k
            generalize hnn : ns.length = n at *
            have HNN := hx hnn
            clear hnn
            go_wp2_with fail
            go_loopw [43] (fun iv wx => ∃ i : Nat, i ≤ n ∧ iv = .int .i64 (i : Int) ∧ Blk wx a1 (ints (putF (base6 k) (fs.take i) (ns.take i))) 28 ∧ Kept [a1] w4 wx) (fun iv _ => n - (intOf iv).toNat)
            case atStart => exact ⟨0, Nat.zero_le _, rfl, by simpa [putF] using HB4.out, Kept.refl _ _⟩
            case round =>
              obtain ⟨i, hi, rfl, hb, hk⟩ := hrel
              have HBB := hx hb
              have HKK := hx hk
              have HII := hx hi
              by_cases hlt : i < n
              · have hil : (i : Int) < (n : Int) := by omega
                obtain ⟨v, hv⟩ : ∃ v, ns[i]? = some v := ⟨_, List.getElem?_eq_getElem (by have := HNN.out; omega)⟩
                obtain ⟨c, hc⟩ : ∃ c, fs[i]? = some c := ⟨_, List.getElem?_eq_getElem (by have := HNL.out; omega)⟩
                have HFD := hx (field_any a1 c wr)
                have hcg : wr.cell? ⟨g, i, none⟩ = some (.int .i64 v) := by
                  have h1 : cur[i]? = some (.int .i64 v) := by
                    have h2 : (cur.take n)[i]? = some (.int .i64 v) := by rw [HTK.out]; exact ints_get hv
                    rwa [List.getElem?_take_of_lt hlt] at h2
                  exact (HKK.out.blk HC4.out (by have := HA1.out.2.2; simp; omega)).cell h1
                have hix : ∀ X, (Instr.index 9 (txt fs) (.int .i64 (i : Int))).run Tryd.prog X = .ok (.int .u8 (c.toNat : Int)) X := fun X => idx_txt hc X
                have hcl : (putF (base6 k) (fs.take i) (ns.take i)).length = 6 := by rw [putF_len]; rfl
                have hct := hb.cell (i := cellN c) (v := .int .i64 ((putF (base6 k) (fs.take i) (ns.take i)).getD (cellN c) 0)) (ints_get (by
                  have := cell_lt c
                  rw [List.getD_eq_getElem?_getD, List.getElem?_eq_getElem (by omega)]
                  rfl))
                have hfr := hb.free (cellN c)
                have HST := hx (show (ints (putF (base6 k) (fs.take i) (ns.take i))).set (cellN c) (.int .i64 v) = ints (putF (base6 k) (fs.take (i + 1)) (ns.take (i + 1))) by
                  obtain ⟨h1, rfl⟩ := List.getElem?_eq_some_iff.1 hc
                  obtain ⟨h2, rfl⟩ := List.getElem?_eq_some_iff.1 hv
                  rw [ints_set, List.take_succ_eq_append_getElem h1, List.take_succ_eq_append_getElem h2, putF_snoc _ _ _ _ _ (by simp; omega)])
                generalize (putF (base6 k) (fs.take i) (ns.take i)).getD (cellN c) 0 = old at hct
                have HLT := hx hlt
                clear hb hk hi hcl hlt hv hc
                go_wp2_with (go_at_call 26; refine HFD.out.mono ?_; rintro e w5 ⟨rfl, rfl⟩)
                go_roundw
                case rel =>
                  have h := HBB.out.set (cellN c) (.int .i64 v)
                  rw [HST.out] at h
                  exact ⟨i + 1, HLT.out, rfl, h, HKK.out.setCell (.inl (by simp)) _⟩
                case measure =>
                  simp only [intOf]
                  have h := HLT.out
                  omega
              · have hil : ¬ (i : Int) < (n : Int) := by omega
                have hie : i = n := by omega
                subst hie
                rw [List.take_of_length_le (by have := HNL.out; omega), List.take_of_length_le (by have := HNN.out; omega)] at hb
                have HBE := hx hb
                have HXL := hx (show (putF (base6 k) fs ns).length = 6 by rw [putF_len]; rfl)
                have HA5 := hx (hk.blk HA4.out (by have := HA1.out.2.1; simp; omega))
                have HK5 := hx (HKW.out.trans hk (ds := []) (fun _ h => h) (fun x h => by simp at h; subst h; exact .inr HA1.out.1))
                clear hb hk hi hlt HBB
                obtain ⟨xs, hxs⟩ : ∃ xs, xs = putF (base6 k) fs ns := ⟨_, rfl⟩
                rw [← hxs] at HBE HXL HR
                clear hxs
                go_wp2_with (first
                  | (refine load_blk rfl 28 (.tmp 10) rfl a1 rfl 28 _ _ HBE.out Tryd.underlying28 rfl (infoAct' _ HXL.out) ?_)
                  | (refine store_blk rfl 28 (.tmp 2) (.tmp 55) rfl w.heap.size rfl 28 _ (ints xs) rfl HA5.out (by rw [ints_len, HXL.out]; rfl) (infoAct' _ HXL.out) (ints_one _) ?_; intro w6 hb6 hk6; have HB6 := hx hb6; have HK6 := hx hk6; clear hb6 hk6))
                exact bodyPost_ret (ret_blk2 rfl _ w.heap.size _ _ _ _ rfl rfl HB6.out Tryd.underlying28 rfl (infoAct' _ HXL.out)) rfl ⟨by rw [HR.out]; rfl, HK5.out.trans HK6.out (fun _ h => h) (fun x h => by simp at h; subst h; exact .inr (Nat.le_refl _))⟩
      · have hbe : (wordL k == w0) = false := by simpa using hw
        have HWN := hx hw
        clear hw
        go_wp2_with (go_at_call 25; refine HW.out.mono ?_; rintro e w2 ⟨rfl, rfl⟩)
        go_roundw
        case rel =>
          have h := HKB.out
          refine ⟨k + 1, rfl, by omega, by omega, fun j h1 h2 => ?_, trivial⟩
          by_cases hj : j = k
          · subst hj; exact HWN.out
          · exact HNE.out j h1 (by omega)
        case measure =>
          simp only [intOf]
          have h := HKB.out
          omega
    · have hk : k = 9 := by omega
      subst hk
      have HR := hx (show parseL l = none by
        rw [HP.out, kindOf_none (fun j h1 h2 => HNE.out j h1 (by omega))])
      clear hk1 hk9 h8
      go_wp2_with (refine store_blk rfl 28 (.tmp 2) (.tmp 56) rfl w.heap.size rfl 28 _ (ints (base6 0)) rfl HA0.out rfl (infoAct' _ rfl) (ints_one _) ?_; intro w4 hb4 hk4; have HB4 := hx hb4; have HK4 := hx hk4; clear hb4 hk4)
      exact bodyPost_ret (ret_blk2 rfl _ w.heap.size _ _ _ _ rfl rfl HB4.out Tryd.underlying28 rfl (infoAct' _ rfl)) rfl ⟨by rw [HR.out]; rfl, HK1.out.trans HK4.out (fun _ h => h) (fun x h => by simp at h; subst h; exact .inr (Nat.le_refl _))⟩
end Go.Proofs.YtdfbofkdlgfblaaDoor
