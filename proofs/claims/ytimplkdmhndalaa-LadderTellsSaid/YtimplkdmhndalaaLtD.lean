/- The ladder's Ranks, Games, Player, counts. -/
import Derived.Test.YtimplkdmhndalaaLtC
import Derived.Test.YtimplkdmhndalaaLtI
import Derived.Test.YtimplkdmhndalaaL2
namespace Go.Proofs.Ytimplkdmhndalaa
open Go Go.RowKit Go.Shelf
theorem ranks_perm (h : List Ply) : (ranksP [] h).Perm h := by simpa using ranksP_perm h []
theorem ranks_len (h : List Ply) : (ranksP [] h).length = h.length := (ranks_perm h).length_eq
set_option maxRecDepth 100000 in
set_option maxHeartbeats 3200000 in
theorem pranks_any (q : Nat) (v : Value) (g : Int) (h : List Ply) (w : World) (s : Ld w q v g h) (hd : h.Pairwise (fun x y => x.nm ≠ y.nm)) (hb : h.length ≤ 1000000) :
    Calls Try.prog 14 #[.pointer (some ⟨q, 0, none⟩)] w fun e w' => ∃ v', e = .returned v' ∧ w'.ownsRow w.heap.size 39 5 v' h.length (cel (ranksP [] h)) ∧ Kept [] w w' := by
  obtain ⟨a, c, rfl⟩ := own_slice s.own
  have c0 := s.hq.cell (i := 0) rfl
  have hso : (ranksP [] h).Pairwise ltP := ranksP_sorted .nil (by simpa using hd)
  have hun : (ranksP [] h).Pairwise (fun x y => x.nm ≠ y.nm) := (ranks_perm h).symm.pairwise hd (fun {_ _} e => Ne.symm e)
  have HV := hx (values_any (.slice a h.length c) w ⟨_, _, _, rfl⟩)
  have HSF := hx (sortedf_any w.heap.size (.slice a h.length c) h (ranksP [] h) (w.alloc (.cells #[.slice a h.length c] 46)) (Blk.new w [.slice a h.length c] 46) (World.ownsRow.alloc s.own _) (ranks_perm h) hso hun hb)
  rw [ranks_len] at HSF
  generalize hn : h.length = n at *
  clear s hso hun hd hb hn
  go_enter Try.func14, Try.ntmps14
  go_wp2_with (first
    | (go_at_call 22; refine HV.out.mono ?_; rintro e w1 ⟨rfl, rfl⟩)
    | (go_at_call 21; refine HSF.out.mono ?_; rintro e w2 ⟨v', rfl, ho, hk⟩; have HO := hx ho; have HK := hx (((Kept.refl [] w).alloc (.cells #[.slice a n c] 46)).trans0 hk); clear ho hk))
  go_ret
  exact ⟨v', rfl, own_le HO.out (by simp), HK.out⟩
theorem games_any (q : Nat) (v : Value) (g : Int) (h : List Ply) (w : World) (s : Ld w q v g h) :
    Calls Try.prog 13 #[.pointer (some ⟨q, 0, none⟩)] w fun e w' => e = .returned (.int .i64 g) ∧ w' = w := by
  have c1 := s.hq.cell (i := 1) rfl
  clear s
  go_enter Try.func13, Try.ntmps13
  go_wp2
  go_ret
  exact ⟨rfl, rfl⟩
def agP (x : Ply) : Value := .agg #[txt x.nm, .int .i64 x.ma, .int .i64 x.wo, .int .i64 x.dr, .int .i64 x.lo]
theorem own_five {w : World} {base : Nat} {e : TypeId} {g n c : Nat} {h : List Ply} (ho : w.ownsRow base e 5 (.slice (some ⟨g, 0, none⟩) n c) n (cel h)) {i : Nat} (hi : i < h.length) :
    w.cell? ⟨g, i * 5, none⟩ = some (txt (h.getD i pl0).nm) ∧ w.cell? ⟨g, i * 5 + 1, none⟩ = some (.int .i64 (h.getD i pl0).ma) ∧ w.cell? ⟨g, i * 5 + 2, none⟩ = some (.int .i64 (h.getD i pl0).wo) ∧ w.cell? ⟨g, i * 5 + 3, none⟩ = some (.int .i64 (h.getD i pl0).dr) ∧ w.cell? ⟨g, i * 5 + 4, none⟩ = some (.int .i64 (h.getD i pl0).lo) := by
  have hc := cel_cells ho
  have key : ∀ k u, (enc5 (h.getD i pl0))[k]? = some u → w.cell? ⟨g, i * 5 + k, none⟩ = some u := fun k u hu => by
    have h2 := hc i hi k u (by rw [getD_in hi]; exact hu)
    rwa [Nat.zero_add] at h2
  exact ⟨key 0 _ rfl, key 1 _ rfl, key 2 _ rfl, key 3 _ rfl, key 4 _ rfl⟩
set_option maxRecDepth 100000 in
set_option maxHeartbeats 3200000 in
theorem pplayer_any (q : Nat) (v : Value) (g : Int) (n : List UInt8) (h : List Ply) (w : World) (s : Ld w q v g h) (hb : h.length ≤ 1000000) :
    Calls Try.prog 10 #[.pointer (some ⟨q, 0, none⟩), txt n] w fun e w' => e = .returned (.tuple #[agP (match plAt n h with | some i => h.getD i pl0 | none => pl0), .bool (plAt n h).isSome]) ∧ Kept [] w w' := by
  have HF := hx (fun w1 (hk : Kept [] w w1) => find_any q v g n h w1 (s.kept hk) hb)
  have HS := hx s
  have HZ := hx (Blk.new w (enc5 pl0) 39)
  clear s
  cases hp : plAt n h with
  | none =>
    unfold plV at HF
    rw [hp] at HF
    clear hp
    go_enter Try.func10, Try.ntmps10
    go_wp2_with (first
      | (go_at_call 16; refine (HF.out _ ((Kept.refl [] w).alloc _)).mono ?_; rintro e w1 ⟨rfl, hk⟩; have K1 := hx (((Kept.refl [] w).alloc _).trans0 hk); have B1 := hx (hk.blk HZ.out (by simp)); clear hk)
      | (refine store_blk rfl 39 (.tmp 4) (.tmp 12) rfl w.heap.size rfl 39 _ (enc5 pl0) rfl B1.out rfl (by kernel_rfl) (one_enc5 _) ?_; intro w4 hb4 hk4; have HB4 := hx hb4; have HK4 := hx hk4; clear hb4 hk4))
    exact bodyPost_ret (ret_blk2 rfl _ w.heap.size _ _ _ _ rfl rfl HB4.out Try.underlying39 rfl (by kernel_rfl)) rfl ⟨rfl, K1.out.trans HK4.out (fun _ h => h) (fun x h => by simp at h; subst h; exact .inr (Nat.le_refl _))⟩
  | some i =>
    have hi := (plAt_some hp).1
    unfold plV at HF
    rw [hp] at HF
    obtain ⟨a, c, rfl⟩ := own_slice HS.out.own
    have hown := HS.out.own
    rcases hown.2 with ⟨_, h0⟩ | ⟨gb, cap, cur, he, _⟩
    · omega
    simp only [Value.slice.injEq, true_and] at he
    obtain ⟨rfl, rfl⟩ := he
    have HI := hx (And.intro hi hb)
    have hil : (i : Int) < (h.length : Int) := by omega
    have hi6 : i ≤ 1000000 := by omega
    obtain ⟨x, hx0⟩ : ∃ x, h.getD i pl0 = x := ⟨_, rfl⟩
    have HGO := hx (show agP (match (some i : Option Nat) with | some i => h.getD i pl0 | none => pl0) = agP x by rw [← hx0])
    have HX0 := hx hx0
    clear hx0 hown hp hi
    go_enter Try.func10, Try.ntmps10
    go_upto_region 4 with (first
      | (go_at_call 16; refine (HF.out _ ((Kept.refl [] w).alloc _)).mono ?_; rintro e w1 ⟨rfl, hk⟩; have K1 := hx (((Kept.refl [] w).alloc _).trans0 hk); have B1 := hx (hk.blk HZ.out (by simp)); clear hk))
    have S1 := HS.out.kept K1.out
    have c0 := S1.hq.cell (i := 0) rfl
    obtain ⟨e0, e1, e2, e3, e4⟩ := own_five S1.own HI.out.1
    rw [HX0.out] at e0 e1 e2 e3 e4
    clear S1 hb
    generalize h.length = m at *
    go_wp2_with (refine store_blk rfl 39 (.tmp 4) (.tmp 19) rfl w.heap.size rfl 39 _ (enc5 x) rfl B1.out rfl (by kernel_rfl) (one_enc5 _) ?_; intro w4 hb4 hk4; have HB4 := hx hb4; have HK4 := hx hk4; clear hb4 hk4)
    exact bodyPost_ret (ret_blk2 rfl _ w.heap.size _ _ _ _ rfl rfl HB4.out Try.underlying39 rfl (by kernel_rfl)) rfl ⟨by rw [HGO.out]; rfl, K1.out.trans HK4.out (fun _ h => h) (fun x h => by simp at h; subst h; exact .inr (Nat.le_refl _))⟩
end Go.Proofs.Ytimplkdmhndalaa
