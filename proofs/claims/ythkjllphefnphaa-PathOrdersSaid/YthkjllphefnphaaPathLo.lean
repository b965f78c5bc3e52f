import Derived.Test.YthkjllphefnphaaPathOl
namespace Go.Proofs.Ythkjllphefnphaa
open Go Go.RowKit
theorem infoPtr : (Try.prog.info? 48).map (fun i => (i.zero, i.size, i.bytes)) = some (some (.pointer none), 1, 8) := by kernel_rfl
theorem infoRow : (Try.prog.info? 37).map (fun i => (i.zero, i.size, i.bytes)) = some (some (.agg (rpc pa0).toArray), 78, 168) := by kernel_rfl
theorem one_ptr (b : Nat) : ∀ u ∈ [Value.pointer (some ⟨b, 0, none⟩)], u.oneCell' = true := by
  intro u hu
  simp only [List.mem_singleton] at hu
  rw [hu]; rfl
theorem ptrs_push (bs : List Nat) (b : Nat) : ptrs (bs ++ [b]) = ptrs bs ++ [.pointer (some ⟨b, 0, none⟩)] := by simp [ptrs]
theorem rws_push (ps : List Pa) (p : Pa) : rws (ps ++ [p]) = rws ps ++ rpc p := by simp [rws]
theorem getD_lt {α : Type} (l : List α) (x d : α) (i : Nat) (h : i < l.length) : (l ++ [x]).getD i d = l.getD i d := by simp [List.getD, List.getElem?_append_left h]
theorem getD_eq {α : Type} (l : List α) (x d : α) : (l ++ [x]).getD l.length d = x := by simp [List.getD]
/-- What the first loop has gathered. -/
structure Gat (w wr : World) (i : Nat) (bs : List Nat) (ps : List Pa) (u v : Value) : Prop where
  bl : bs.length = i
  pl : ps.length = i
  a : wr.ownsRow w.heap.size 48 1 u i (ptrs bs)
  r : wr.ownsRow w.heap.size 37 78 v i (rws ps)
  y : Ways wr i bs ps
  k : Kept [] w wr
theorem Gat.zero (w : World) (wr : World) (hk : Kept [] w wr) : Gat w wr 0 [] [] (.slice none 0 0) (.slice none 0 0) :=
  ⟨rfl, rfl, World.ownsRow_nil _ _ _ _, World.ownsRow_nil _ _ _ _, ⟨fun i hi => by omega, fun i hi => by omega⟩, hk⟩
theorem own_kept' {w w2 : World} {base : Nat} {e : TypeId} {size : Nat} {v : Value} {n : Nat} {xs : List Value} (h : w.ownsRow base e size v n xs) (hk : Kept [] w w2) : w2.ownsRow base e size v n xs :=
  h.kept (row := none) ⟨hk.os, hk.tape, hk.output, hk.size, fun k hk' _ => hk.block k hk' (by simp)⟩ (by cases hv : v.ownBlock <;> simp)
theorem Gat.kept {w wr w2 : World} {i : Nat} {bs : List Nat} {ps : List Pa} {u v : Value} (h : Gat w wr i bs ps u v) (hk : Kept [] wr w2) : Gat w w2 i bs ps u v :=
  ⟨h.bl, h.pl, own_kept' h.a hk, own_kept' h.r hk, h.y.kept hk, h.k.trans0 hk⟩
theorem Gat.grown {w wr w2 : World} {i : Nat} {bs : List Nat} {ps : List Pa} {u v : Value} (h : Gat w wr i bs ps u v) (hg : wr.grownBy w2 u.ownBlock) :
    w2.ownsRow w.heap.size 37 78 v i (rws ps) ∧ Ways w2 i bs ps ∧ Kept [] w w2 :=
  ⟨h.r.kept hg (own_ne2 h.a h.r (by decide)), ⟨fun j hj => grown_blk hg (h.y.blk j hj) (own_ne h.a (h.y.blk j hj) (by decide)), h.y.ok⟩, h.k.grown hg (fun k hk => .inr (h.a.lt k hk).1)⟩
theorem Ways.add {w : World} {i b : Nat} {bs : List Nat} {ps : List Pa} {p : Pa} (h : Ways w i bs ps) (hb : bs.length = i) (hp : ps.length = i) (hB : Blk w b (pac p) 31) (hO : StOk p.s 1000000) : Ways w (i + 1) (bs ++ [b]) (ps ++ [p]) := by
  refine ⟨fun j hj => ?_, fun j hj => ?_⟩
  · rcases Nat.lt_or_ge j i with g | g
    · rw [getD_lt _ _ _ _ (by omega), getD_lt _ _ _ _ (by omega)]; exact h.blk j g
    · obtain rfl : j = i := by omega
      have e1 := getD_eq bs b 0
      have e2 := getD_eq ps p pa0
      rw [hb] at e1
      rw [hp] at e2
      rw [e1, e2]
      exact hB
  · rcases Nat.lt_or_ge j i with g | g
    · rw [getD_lt _ _ _ _ (by omega)]; exact h.ok j g
    · obtain rfl : j = i := by omega
      have e2 := getD_eq ps p pa0
      rw [hp] at e2
      rw [e2]
      exact hO
def IntL (w : World) (a : Option Addr) (n : Nat) (l : List Nat) : Prop := ∀ i, i < n → ∃ g, a = some ⟨g, 0, none⟩ ∧ w.cell? ⟨g, i, none⟩ = some (.int .i64 ((l.getD i 0 : Nat) : Int))
theorem IntL.kept {w w2 : World} {a : Option Addr} {n : Nat} {l : List Nat} (h : IntL w a n l) (hk : Kept [] w w2) : IntL w2 a n l := fun i hi => by
  obtain ⟨g, h1, h2⟩ := h i hi
  exact ⟨g, h1, kept_cell' hk h2⟩
theorem ints_form {w : World} {base : Nat} {e : TypeId} {v : Value} {n : Nat} {l : List Nat} (h : w.ownsRow base e 1 v n (ints l)) : ∃ a cap, v = .slice a n cap ∧ IntL w a n l := by
  rcases h.2 with ⟨rfl, rfl⟩ | ⟨g, cap, cur, rfl, hb, hg, hnc, hcm, hcs, htake⟩
  · exact ⟨none, 0, rfl, fun i hi => by omega⟩
  · exact ⟨_, cap, rfl, fun i hi => ⟨g, rfl, own_cell h i hi⟩⟩
set_option maxRecDepth 100000 in
set_option maxHeartbeats 12000000 in
theorem law_orders (a : Option Addr) (len cap : Nat) (w : World) (hA : Lsts w a len cap) :
    Calls Try.prog 5 #[.slice a len cap] w fun e w' => e = .returned (.bool true) ∧ Kept [] w w' := by
  by_cases hbig : 8 < len
  · have hbi : (8 : Int) < (len : Int) := by omega
    clear hA
    go_enter Try.func5, Try.ntmps5
    go_wp2_with fail
    refine (pawake_any _).mono ?_
    rintro e w1 ⟨rfl, hk1⟩
    go_wp2
    go_ret
    exact ⟨rfl, hk1⟩
  · have hbi : ¬ (8 : Int) < (len : Int) := by omega
    have hl8 : len ≤ 8 := by omega
    have HA := hx hA
    obtain ⟨Z, hZ, hz⟩ := zeroPa'
    obtain ⟨Y, hY, hy⟩ := zeroRp'
    have HZ := hx hZ
    have HY := hx hY
    obtain ⟨IR, hIR⟩ := infoR
    have HIR := hx hIR
    clear hA hZ hY hbig hIR
    go_enter Try.func5, Try.ntmps5
    go_wp2_with fail
    refine (pawake_any _).mono ?_
    rintro e w1 ⟨rfl, hk1⟩
    have HK1 := hx hk1
    clear hk1
    go_wp2_with fail
    go_loopw [3, 4, 5] (fun uv vv iv wr => ∃ (i : Nat) (bs : List Nat) (ps : List Pa) (u v : Value), i ≤ len ∧ iv = .int .i64 i ∧ u = uv ∧ v = vv ∧ Gat w wr i bs ps u v) (fun _ _ iv _ => len - (intOf iv).toNat)
    case atStart => exact ⟨0, [], [], _, _, by omega, rfl, rfl, rfl, Gat.zero w _ HK1.out⟩
    case round =>
      clear HK1
      obtain ⟨i, bs, ps, u, v, hi, rfl, rfl, rfl, hg⟩ := hrel
      have HG := hx hg
      clear hg
      by_cases hlt : i < len
      · have hli : (i : Int) < (len : Int) := by omega
        obtain ⟨b, off, a', n', c', rfl, hc, hac⟩ := (HA.out.kept HG.out.k).hcell i hlt
        have HPL := hx (played_any a' n' c' wr hac)
        clear hac
        go_wp2_with fail
        refine HPL.out.mono ?_
        rintro e w2 ⟨p, rfl, hok, _, hk2⟩
        have HG2 := hx (HG.out.kept hk2)
        have HOK := hx (hok.s.mono (show 65 * 100 ≤ 1000000 by omega))
        clear hok hk2 HG HPL hc
        have hbz := hx (show Blk ((w2.alloc (.cells Z 31)).alloc (.cells Y 37)) w2.heap.size (pac pa0) 31 by
          have h := (Blk.new' w2 Z 31).alloc (.cells Y 37)
          rw [HZ.out] at h
          exact h)
        have hby := hx (show Blk ((w2.alloc (.cells Z 31)).alloc (.cells Y 37)) (w2.heap.size + 1) (rpc pa0) 37 by
          have h := Blk.new' (w2.alloc (.cells Z 31)) Y 37
          rw [HY.out, show (w2.alloc (.cells Z 31)).heap.size = w2.heap.size + 1 by simp] at h
          exact h)
        have KF := hx (((Kept.refl [] w2).alloc (.cells Z 31)).alloc (.cells Y 37))
        go_upto_region 13 with (first
          | (refine store_blk rfl 31 (.tmp 6) (.tmp 30) rfl w2.heap.size rfl 31 _ _ rfl hbz.out rfl (infoPan _) (pac_one _) ?_
             intro w4 hb4 hk4
             have HB6 := hx hb4
             have HY4 := hx (hk4.blk hby.out (by simp))
             have KF4 := hx (Kept.behind KF.out hk4 (Nat.le_refl _))
             clear hb4 hk4 hbz hby KF)
          | (refine store_blk rfl 37 (.tmp 7) (.tmp 31) rfl (w2.heap.size + 1) rfl 37 _ _ rfl HY4.out (rpc_len2 _ _) (infoRpn _) (rpc_one _) ?_
             intro w5 hb5 hk5
             have HC7 := hx hb5
             have HB7 := hx (hk5.blk HB6.out (by simp))
             have KF5 := hx (Kept.behind KF4.out hk5 (by omega))
             clear hb5 hk5 HY4 KF4 HB6))
        have hz5 := hx (show Blk (w5.alloc (.cells Z 31)) w5.heap.size (pac pa0) 31 by
          have h := Blk.new' w5 Z 31
          rw [HZ.out] at h
          exact h)
        have HM5 := hx (And.intro HC7.out.lt KF5.out.size)
        go_upto_region 14 with (first
          | refine load_blk rfl 31 (.tmp 6) rfl w2.heap.size rfl 31 _ _ HB7.out Try.underlying31 rfl (infoPan _) ?_
          | (refine store_blk rfl 31 (.tmp 9) (.tmp 35) rfl w5.heap.size rfl 31 _ _ rfl hz5.out rfl (infoPan _) (pac_one _) ?_
             intro w6 hb6 hk6
             have HB9 := hx hb6
             have HC9 := hx (hk6.blk (HC7.out.alloc (.cells Z 31)) (by have h := HM5.out.1; simp; omega))
             have HG6 := hx (HG2.out.kept (Kept.behind (KF5.out.alloc (.cells Z 31)) hk6 HM5.out.2))
             clear hb6 hk6 hz5 HB7 HC7 KF5))
        clear HG2 HM5
        generalize w5.heap.size = m9 at *
        generalize w2.heap.size + 1 = m7 at *
        generalize w2.heap.size = m6 at *
        have HGA := hx (HG6.out.kept ((Kept.refl [] w6).alloc (.cells #[.pointer (some ⟨m9, 0, none⟩)] 48)))
        have HBA := hx (HB9.out.alloc (.cells #[.pointer (some ⟨m9, 0, none⟩)] 48))
        have HCA := hx (HC9.out.alloc (.cells #[.pointer (some ⟨m9, 0, none⟩)] 48))
        have HNA := hx (Blk.new w6 [.pointer (some ⟨m9, 0, none⟩)] 48)
        clear HG6 HB9 HC9
        go_upto_region 15 with (first
          | (at_builtin; refine wpList_app rfl (.tmp 36) (.tmp 37) 46 rfl w.heap.size 48 (.pointer none) 1 8 infoPtr Try.underlying46 rfl (by omega) u i (ptrs bs) rfl HGA.out.a (some ⟨w6.heap.size, 0, none⟩) 1 1 [.pointer (some ⟨m9, 0, none⟩)] rfl rfl (by simp) (by omega) (blk_news HNA.out) (one_ptr m9) (by unfold maxLen; omega) (by omega) HGA.out.k.size ?_; intro u2 w8 ho8 hg8; have HO8 := hx ho8; have HG8 := hx (HGA.out.grown hg8); have HB8 := hx (grown_blk hg8 HBA.out (own_ne HGA.out.a HBA.out (by decide))); have HC8 := hx (grown_blk hg8 HCA.out (own_ne HGA.out.a HCA.out (by decide))); clear ho8 hg8 HBA HCA HNA))
        have HBL := hx (And.intro HGA.out.bl HGA.out.pl)
        clear HGA
        go_wp2_with (first
          | refine load_blk rfl 37 (.tmp 7) rfl m7 rfl 37 _ _ HC8.out Try.underlying37 rfl (infoRpn _) ?_
          | (refine wpList_build1 rfl 47 37 (.tmp 40) rfl 78 (rpc p) rfl (rpc_len p) (by omega) (by omega) Try.underlying47 IR (.agg (rpc pa0).toArray) HIR.out.1 HIR.out.2.1 HIR.out.2.2 ?_
             have HR9 := hx (World.ownsRow.alloc HG8.out.1 (.cells (rpc p).toArray 37))
             have HO9 := hx (World.ownsRow.alloc HO8.out (.cells (rpc p).toArray 37))
             have HY9 := hx (HG8.out.2.1.kept ((Kept.refl [] w8).alloc (.cells (rpc p).toArray 37)))
             have HK9 := hx (HG8.out.2.2.alloc (.cells (rpc p).toArray 37))
             have HB9 := hx (HB8.out.alloc (.cells (rpc p).toArray 37))
             have HN9 := hx (Blk.new w8 (rpc p) 37)
             clear HG8 HO8 HB8 HC8)
          | (at_builtin; refine wpList_app rfl (.tmp 39) (.tmp 41) 47 rfl w.heap.size 37 (.agg (rpc pa0).toArray) 78 168 infoRow Try.underlying47 (by simp [Value.cells, rpc_len]) (by omega) v i (rws ps) rfl HR9.out (some ⟨w8.heap.size, 0, none⟩) 1 1 (rpc p) rfl (by rw [rpc_len]) (by simp) (by omega) (blk_news HN9.out) (rpc_one p) (by unfold maxLen; omega) (by omega) HK9.out.size ?_; intro v2 w10 ho10 hg10
             have HGF := hx (show Gat w w10 (i + 1) (bs ++ [m9]) (ps ++ [p]) u2 v2 from ⟨by simp [HBL.out.1], by simp [HBL.out.2], by rw [ptrs_push]; exact HO9.out.kept hg10 (own_ne2 HR9.out HO9.out (by decide)), by rw [rws_push]; exact ho10,
               Ways.add ⟨fun j hj => grown_blk hg10 (HY9.out.blk j hj) (own_ne HR9.out (HY9.out.blk j hj) (by decide)), HY9.out.ok⟩ HBL.out.1 HBL.out.2 (grown_blk hg10 HB9.out (own_ne HR9.out HB9.out (by decide))) HOK.out, HK9.out.grown hg10 (fun k hk => .inr (HR9.out.lt k hk).1)⟩)
             clear ho10 hg10 HR9 HO9 HY9 HK9 HB9 HN9))
        go_wp2
        go_roundw
        case rel => exact ⟨i + 1, bs ++ [m9], ps ++ [p], u2, v2, by omega, by go_num, rfl, rfl, HGF.out⟩
        case measure => simp [intOf] <;> omega
      · obtain rfl : i = len := by omega
        obtain ⟨a1, c1, rfl, hp1⟩ := ptrs_form HG.out.a
        obtain ⟨a2, c2, rfl, hp2⟩ := rws_form HG.out.r
        have H1 := hx (order_any a1 i c1 bs ps wr hp1 HG.out.y hl8)
        have H2 := hx (fun (w : World) (h : Rws w a2 i ps) => rorder_any a2 i c2 ps w h HG.out.y.ok hl8)
        have HP2 := hx hp2
        have HK := hx HG.out.k
        clear hp1 hp2 HG
        go_wp2_with fail
        refine H1.out.mono ?_
        rintro e w3 ⟨u1, l1, rfl, hs1, ho1, hk3⟩
        have HS1 := hx hs1
        have HO1 := hx ho1
        have HC2 := hx (H2.out w3 (HP2.out.kept hk3))
        have HK3 := hx (HK.out.trans0 hk3)
        clear hs1 ho1 hk3 H1 H2 HP2 HK
        go_wp2_with fail
        refine HC2.out.mono ?_
        rintro e w4 ⟨u2, l2, rfl, hs2, ho2, hk4⟩
        obtain rfl : l2 = l1 := hs2.eq HS1.out
        obtain ⟨b1, d1, rfl, hi1⟩ := ints_form HO1.out
        obtain ⟨b2, d2, rfl, hi2⟩ := ints_form ho2
        have HI1 := hx (hi1.kept hk4)
        have HI2 := hx hi2
        have HK4 := hx (HK3.out.trans0 hk4)
        clear hs2 ho2 hi1 hi2 hk4 HS1 HO1 HC2 HK3
        go_wp2
        go_loopw [12] (fun iv w5 => ∃ k : Nat, k ≤ i ∧ iv = .int .i64 k ∧ Kept [] w4 w5) (fun iv _ => i - (intOf iv).toNat)
        case atStart => exact ⟨0, by omega, rfl, Kept.refl _ _⟩
        case round =>
          obtain ⟨k, hk, rfl, hk5⟩ := hrel
          have HK5 := hx hk5
          by_cases hlt2 : k < i
          · have hki : (k : Int) < (i : Int) := by omega
            obtain ⟨g1, rfl, e1⟩ := (HI1.out.kept hk5) k hlt2
            obtain ⟨g2, rfl, e2⟩ := (HI2.out.kept hk5) k hlt2
            generalize l2.getD k 0 = x at *
            clear hk5
            go_wp2_with fail
            go_quiet (fail)
            have HK6 := hx (HK5.out.trans0 ((Kept.refl [] wr).drewN nq))
            go_wp2
            go_roundw
            case rel => exact ⟨k + 1, by omega, by go_num, HK6.out⟩
            case measure => simp [intOf] <;> omega
          · have HKw := hx (HK4.out.trans0 hk5)
            clear hk5
            go_wp2
            go_ret
            exact ⟨rfl, HKw.out⟩
end Go.Proofs.Ythkjllphefnphaa
