/- The law: a key that is started comes just when its ticks have gone by. -/
import Derived.Test.YthcbacflopbkdaaTmLa
namespace Go.Proofs.Ythcbacflopbkdaa
open Go Go.RowKit
theorem key_inj {s : List En} (hk : s.Pairwise (fun x y => x.key ≠ y.key)) {x y : En} (hx : x ∈ s) (hy : y ∈ s) (e : x.key = y.key) : x = y := by
  obtain ⟨i, hi, rfl⟩ := List.getElem_of_mem hx
  obtain ⟨j, hj, rfl⟩ := List.getElem_of_mem hy
  rw [List.pairwise_iff_getElem] at hk
  rcases Nat.lt_trichotomy i j with g | g | g
  · exact absurd e (hk i j hi hj g)
  · subst g; rfl
  · exact absurd e.symm (hk j i hj hi g)
/-- The key runs till its time, and then no more. -/
def KInv (s : List En) (key due0 now : Int) : Prop := (now < due0 → ∃ x, x ∈ s ∧ x.key = key ∧ x.due = due0) ∧ (due0 ≤ now → ∀ x, x ∈ s → x.key ≠ key)
theorem kinv_tick {h s : List En} {now no key due0 N : Int} (t : Tp h s now no) (hi : KInv s key due0 now) (hN : now ≤ N) :
    ((s.take (dueN N s)).map (·.key)).any (· == key) = (decide (now < due0) && decide (due0 ≤ N)) ∧ KInv (s.drop (dueN N s)) key due0 N := by
  obtain ⟨h1, h2⟩ := drop_due t.sorted (n := dueN N s) rfl
  rw [h1, h2]
  by_cases hlt : now < due0
  · obtain ⟨x, hx, hxk, hxd⟩ := hi.1 hlt
    have uniq : ∀ y, y ∈ s → y.key = key → y.due = due0 := fun y hy hyk => by
      rw [key_inj t.keys hy hx (hyk.trans hxk.symm), hxd]
    rw [decide_eq_true hlt, Bool.true_and]
    refine ⟨?_, fun hd => ⟨x, ?_, hxk, hxd⟩, fun hd y hy hyk => ?_⟩
    · by_cases hd : due0 ≤ N
      · rw [decide_eq_true hd, List.any_eq_true]
        exact ⟨key, List.mem_map.2 ⟨x, List.mem_filter.2 ⟨hx, by simp; omega⟩, hxk⟩, by simp⟩
      · rw [decide_eq_false hd, List.any_eq_false]
        intro z hz
        obtain ⟨y, hy, rfl⟩ := List.mem_map.1 hz
        obtain ⟨hy1, hy2⟩ := List.mem_filter.1 hy
        simp only [decide_eq_true_eq] at hy2
        simp only [beq_iff_eq]
        intro hyk
        have := uniq y hy1 hyk
        omega
    · exact List.mem_filter.2 ⟨hx, by simp; omega⟩
    · obtain ⟨hy1, hy2⟩ := List.mem_filter.1 hy
      have := uniq y hy1 hyk
      simp at hy2
      omega
  · have hno := hi.2 (by omega)
    rw [decide_eq_false hlt, Bool.false_and, List.any_eq_false]
    refine ⟨fun z hz => ?_, fun hd => by omega, fun _ y hy => hno y (List.mem_filter.1 hy).1⟩
    obtain ⟨y, hy, rfl⟩ := List.mem_map.1 hz
    simp only [beq_iff_eq]
    exact hno y (List.mem_filter.1 hy).1
/-- A list of numbers that came in. -/
structure Pcs (w : World) (a : Option Addr) (len cap : Nat) : Prop where
  hle : len ≤ cap
  hcell : ∀ i, i < len → ∃ b off x, a = some ⟨b, off, none⟩ ∧ w.cell? ⟨b, off + i, none⟩ = some (.int .i64 x)
theorem Pcs.kept {w w' : World} {a : Option Addr} {len cap : Nat} (h : Pcs w a len cap) (hk : Kept [] w w') : Pcs w' a len cap :=
  ⟨h.hle, fun i hi => by
    obtain ⟨b, off, x, h1, h2⟩ := h.hcell i hi
    exact ⟨b, off, x, h1, kept_cell hk h2⟩⟩
/-- Started, it runs. -/
theorem start_kinv {w0 w w1 : World} {q : Nat} {v : Value} {now no k ticks : Int} {h s : List En} {e : Ending} (d : Tq w0 w q v 20 now no h s) (h1 : 1 ≤ ticks) (h2 : ticks ≤ 1000000) (hl : h.length ≤ 20) (hS : StartP w q v 20 now no k ticks h e w1) :
    (e = .returned (.int .i64 2) ∧ h.length = 20 ∧ ∃ v', Tq w0 w1 q v' 20 now no h s) ∨ (e = .returned (.int .i64 0) ∧ ∃ v' h' s', Tq w0 w1 q v' 20 now (no + 1) h' s' ∧ KInv s' k (now + ticks) now ∧ h'.length ≤ 21) := by
  obtain ⟨v', no', h', hkt, ts, hcase⟩ := hS
  have hn1 := d.tp.now1
  have fin : ∀ {g t : List En} (tp : Tp g t now no) (hg : ∀ x, x ∈ g → x.key ≠ k), Tp (g ++ [⟨k, now + ticks, no + 1⟩]) (insE ⟨k, now + ticks, no + 1⟩ t) now (no + 1) ∧ KInv (insE ⟨k, now + ticks, no + 1⟩ t) k (now + ticks) now := fun {g t} tp hg =>
    ⟨tp.add hg (by omega) (by omega), fun _ => ⟨⟨k, now + ticks, no + 1⟩, (ins_perm _ _).mem_iff.2 (by simp), rfl, rfl⟩, fun h => by omega⟩
  rcases hcase with ⟨hb, _⟩ | ⟨_, _, hka, hb, rfl, rfl, rfl⟩ | ⟨_, _, hka, hb, rfl, rfl, rfl⟩ | ⟨_, _, i, hka, rfl, rfl, rfl⟩
  · omega
  · exact .inl ⟨rfl, by omega, v', d.step hkt ts d.tp⟩
  · obtain ⟨t1, t2⟩ := fin d.tp (keyAt_none hka)
    exact .inr ⟨rfl, v', _, _, d.step hkt ts t1, t2, by simp; omega⟩
  · obtain ⟨t1, t2⟩ := fin (d.tp.erase hka) (fun x hx => by
      rw [erase_filter hka d.tp.hkeys] at hx
      have := (List.mem_filter.1 hx).2
      simpa [notKey] using this)
    exact .inr ⟨rfl, v', _, _, d.step hkt ts t1, t2, by
      have := (keyAt_some hka).1
      simp [List.length_eraseIdx, this]; omega⟩
/-- Is a key among the first ones? -/
def anyK (key : Int) (l : List Int) (i : Nat) : Bool := (l.take i).any (· == key)
theorem anyK_succ (key : Int) (l : List Int) (i : Nat) (hi : i < l.length) : anyK key l (i + 1) = (anyK key l i || (l.getD i 0 == key)) := by
  unfold anyK
  rw [List.take_add_one, List.getElem?_eq_getElem hi, List.any_append]
  simp [List.getD, hi]
theorem anyK_all (key : Int) (l : List Int) : anyK key l l.length = l.any (· == key) := by unfold anyK; rw [List.take_length]
set_option maxRecDepth 100000 in
set_option maxHeartbeats 6400000 in
theorem tcomes_any (key ticks : Int) (a : Option Addr) (len cap : Nat) (pa : Option Addr) (plen pcap : Nat) (w : World) (hA : Ops w a len cap) (hPc : Pcs w pa plen pcap) :
    Calls Try.prog 12 #[.slice a len cap, .int .i64 key, .int .i64 ticks, .slice pa plen pcap] w fun e w' => e = .returned (.bool true) ∧ Kept [] w w' := by
  have HPC := hx hPc
  have HP := hx (tplayed_any 20 a len cap w hA)
  clear hA hPc
  go_enter Try.func12, Try.ntmps12
  go_wp2_with fail
  refine HP.out.mono ?_
  rintro e w2 hp
  rcases hp with ⟨rfl, hk2⟩ | ⟨hr1, hr2, q, v, now, no, h, s, b, n, c, rfl, hd, hno⟩
  · have HK2 := hx (hk2.alloc (.cells #[.int .i64 20, .int .i64 0, .slice none 0 0] 34))
    clear hk2 HP
    go_wp2_with fail
    go_ret
    exact ⟨rfl, HK2.out⟩
  · have HD := hx (hd.kept ((Kept.refl [] w2).alloc (.cells #[.int .i64 20, .int .i64 now, .slice b n c] 34))).tq
    have HN := hx (show h.length ≤ 20 ∧ no ≤ 80 by have h1 := hd.tp.len; have h2 := hd.hr; omega)
    have HB := hx (Blk.new w2 (set3 20 now (.slice b n c)) 34)
    clear hd hr1 hr2 hno HP
    go_upto_region 2 with fail
    generalize w2.heap.size = b8 at *
    generalize w2.alloc (.cells #[.int .i64 20, .int .i64 now, .slice b n c] 34) = w3 at *
    have c1 := HB.out.cell (i := 1) (v := .int .i64 now) rfl
    by_cases g1 : ticks < 1
    · go_wp2
      go_ret
      exact ⟨rfl, HD.out.k⟩
    by_cases g2 : 1000000 < ticks
    · go_wp2
      go_ret
      exact ⟨rfl, HD.out.k⟩
    by_cases g3 : 40 < (plen : Int)
    · go_wp2
      go_ret
      exact ⟨rfl, HD.out.k⟩
    have HG := hx (And.intro (show 1 ≤ ticks by omega) (And.intro (show ticks ≤ 1000000 by omega) (show plen ≤ 40 by omega)))
    by_cases g4 : 549755813888 < now
    · have hd4 := decide_eq_true g4
      clear g4
      go_wp2
      go_ret
      exact ⟨rfl, HD.out.k⟩
    have HW := hx (show now ≤ 549755813888 by omega)
    have hd4 := decide_eq_false g4
    clear g4
    have HST := hx (tstart_any q v 20 now no key ticks h w3 HD.out.ts (by have := HN.out; omega) HD.out.tp.no0 (by have := HN.out; omega) HD.out.tp.now0 HD.out.tp.now1)
    go_wp2_with fail
    refine HST.out.mono ?_
    rintro e w4 hS
    rcases start_kinv HD.out HG.out.1 HG.out.2.1 HN.out.1 hS with ⟨rfl, hl20, v', d4⟩ | ⟨rfl, v', h', s', d4, hki, hl21⟩
    · have HT := hx d4
      have HLN := hx (tlen_any q v' 20 now no h w4 d4.ts)
      have HL20 := hx hl20
      clear hS d4 hl20 HST g1 g2 g3 c1
      go_wp2_with (go_at_call 21; refine HLN.out.mono ?_; rintro e w5 ⟨rfl, rfl⟩)
      go_ret
      exact ⟨ret_bool (by rw [HL20.out]; rfl), HT.out.k⟩
    · have HT := hx (And.intro d4 (And.intro hki hl21))
      clear hS d4 hki hl21 HST g1 g2 g3 c1 hd4
      go_wp2_with fail
      have hpl40 : plen ≤ 40 := HG.out.2.2
      go_loopw [12, 13] (fun gv iv wr => ∃ (i : Nat) (gone : Int) (v : Value) (h s : List En), i ≤ plen ∧ iv = .int .i64 i ∧ gv = .int .i64 gone ∧ 0 ≤ gone ∧ gone ≤ i * 1000000 ∧ Tq w wr q v 20 (now + gone) (no + 1) h s ∧ KInv s key (now + ticks) (now + gone) ∧ h.length ≤ 21) (fun _ iv _ => plen - (intOf iv).toNat)
      case atStart => exact ⟨0, 0, v', h', s', by omega, rfl, rfl, by omega, by omega, by rw [Int.add_zero]; exact HT.out.1, by rw [Int.add_zero]; exact HT.out.2.1, HT.out.2.2⟩
      case round =>
        clear HT HN HD HB
        obtain ⟨i, gone, v, h, s, hi, rfl, rfl, hg0, hg1, d5, hki, hl⟩ := hrel
        have HT := hx (And.intro d5 (And.intro hki hl))
        have HG0 := hx (And.intro hg0 hg1)
        clear d5 hki hl
        by_cases hlt : i < plen
        · have hli : (i : Int) < (plen : Int) := by omega
          have hi0 : (0 : Int) ≤ (i : Int) := by omega
          obtain ⟨g, off, p, rfl, e1⟩ := (HPC.out.kept HT.out.1.k).hcell i hlt
          by_cases gp0 : p < 0
          · go_wp2
            go_ret
            exact ⟨rfl, HT.out.1.k⟩
          by_cases gp1 : 1000000 < p
          · go_wp2
            go_ret
            exact ⟨rfl, HT.out.1.k⟩
          have hsum : 0 ≤ gone + p ∧ gone + p ≤ 41000000 := by omega
          have hs1 := hsum.1
          have hs2 := hsum.2
          have HNT := hx (show nowT (now + gone) p = now + (gone + p) by unfold nowT; have := HW.out; omega)
          have HKT := hx (kinv_tick (N := now + (gone + p)) HT.out.1.tp HT.out.2.1 (by omega))
          have HTK := hx (tq_tick HT.out.1 p (now + (gone + p)) _ HNT.out rfl (by have := HT.out.2.2; omega))
          have HSL := hx (HT.out.1.tp.len)
          have HG5 := hx (show gone + p ≤ ((i : Int) + 1) * 1000000 by omega)
          have HPP := hx (And.intro (show 0 ≤ gone + p by omega) (show gone ≤ 41000000 by omega))
          have hg41 : gone ≤ 41000000 := HPP.out.2
          have hpl : p ≤ 1000000 := by omega
          clear hsum
          go_wp2_with fail
          clear gp0 gp1
          refine HTK.out.mono ?_
          rintro e w6 ⟨v6, a6, c6, rfl, hc6, hi6, d6, _, _, _⟩
          have HT6 := hx (And.intro d6 HKT.out.2)
          have HI6 := hx hi6
          have HCM := hx HKT.out.1
          have HML := hx (show ((s.take (dueN (now + (gone + p)) s)).map (·.key)).length = dueN (now + (gone + p)) s by
            have := dueN_le (now + (gone + p)) s
            simp; omega)
          have HMB := hx (show dueN (now + (gone + p)) s ≤ 21 by
            have h1 := dueN_le (now + (gone + p)) s
            have h2 := HSL.out
            have h3 := HT.out.2.2
            omega)
          have HDL := hx (show (s.drop (dueN (now + (gone + p)) s)).length ≤ 21 by
            have h2 := HSL.out
            have h3 := HT.out.2.2
            rw [List.length_drop]; omega)
          clear hc6 hi6 d6 HTK HKT HT
          generalize (s.take (dueN (now + (gone + p)) s)).map (·.key) = L at *
          generalize s.drop (dueN (now + (gone + p)) s) = s6 at *
          generalize dueN (now + (gone + p)) s = n6 at *
          go_wp2_with fail
          go_loopw [16, 18] (fun cv kv wr => ∃ j : Nat, j ≤ n6 ∧ kv = .int .i64 j ∧ cv = .bool (anyK key L j) ∧ Kept [] w6 wr) (fun _ kv _ => n6 - (intOf kv).toNat)
          case atStart => exact ⟨0, by omega, rfl, by unfold anyK; simp, Kept.refl _ _⟩
          case round =>
            obtain ⟨j, hj, rfl, rfl, hk7⟩ := hrel
            have HK7 := hx hk7
            clear hk7
            have hn21 : n6 ≤ 21 := HMB.out
            by_cases hjl : j < n6
            · have hlj : (j : Int) < (n6 : Int) := by omega
              have hj0 : (0 : Int) ≤ (j : Int) := by omega
              obtain ⟨g6, off6, rfl, f1⟩ := (HI6.out.kept HK7.out) j (by have := HML.out; omega)
              have HAN := hx (anyK_succ key L j (by have := HML.out; omega))
              generalize L.getD j 0 = z at *
              generalize anyK key L j = cm at *
              cases cm
              · go_wp2
                all_goals
                  go_roundw
                  case rel => exact ⟨j + 1, by omega, by go_num, by rw [HAN.out]; simp, HK7.out⟩
                  case measure => simp [intOf] <;> omega
              · go_wp2
                go_roundw
                case rel => exact ⟨j + 1, by omega, by go_num, by rw [HAN.out]; simp, HK7.out⟩
                case measure => simp [intOf] <;> omega
            · obtain rfl : j = n6 := by omega
              have hjl2 : ¬ (j : Int) < (j : Int) := by omega
              have HCM2 := hx (show anyK key L j = (decide (gone < ticks) && decide (ticks ≤ gone + p)) by
                rw [← HML.out, anyK_all, HCM.out]
                congr 1 <;> exact decide_eq_decide.2 (by omega))
              rw [HCM2.out]
              by_cases ga : gone < ticks
              · by_cases gb : ticks ≤ gone + p
                · skip
                  have da := decide_eq_true ga
                  have db := decide_eq_true gb
                  rw [show (decide (gone < ticks) && decide (ticks ≤ gone + p)) = true by rw [da, db]; rfl]
                  clear HCM2
                  go_wp2
                  go_roundw
                  case rel => exact ⟨i + 1, gone + p, v6, s6, s6, by omega, by go_num, rfl, HPP.out.1, by have h1 := HG5.out; omega, HT6.out.1.kept HK7.out, HT6.out.2, HDL.out⟩
                  case measure => simp [intOf] <;> omega

                · skip
                  have da := decide_eq_true ga
                  have db := decide_eq_false gb
                  rw [show (decide (gone < ticks) && decide (ticks ≤ gone + p)) = false by rw [da, db]; rfl]
                  clear HCM2
                  go_wp2
                  go_roundw
                  case rel => exact ⟨i + 1, gone + p, v6, s6, s6, by omega, by go_num, rfl, HPP.out.1, by have h1 := HG5.out; omega, HT6.out.1.kept HK7.out, HT6.out.2, HDL.out⟩
                  case measure => simp [intOf] <;> omega

              · skip
                have da := decide_eq_false ga
                skip
                rw [show (decide (gone < ticks) && decide (ticks ≤ gone + p)) = false by rw [da, Bool.false_and]]
                clear HCM2
                go_wp2
                go_roundw
                case rel => exact ⟨i + 1, gone + p, v6, s6, s6, by omega, by go_num, rfl, HPP.out.1, by have h1 := HG5.out; omega, HT6.out.1.kept HK7.out, HT6.out.2, HDL.out⟩
                case measure => simp [intOf] <;> omega
        · have hli : ¬ (i : Int) < (plen : Int) := by omega
          go_wp2
          go_ret
          exact ⟨rfl, HT.out.1.k⟩
end Go.Proofs.Ythcbacflopbkdaa
