import Derived.Test.YthpdoekeooedfaaPrioA
namespace Go.Proofs.Ythpdoekeooedfaa
open Go Go.RowKit
set_option maxHeartbeats 800000 in
theorem pop_none (q : Nat) (v : Value) (room turns : Int) (w : World) (s : Qs w q v room turns []) :
    Calls Try.prog 10 #[.pointer (some ⟨q, 0, none⟩)] w fun e w' => e = .returned (.tuple #[.int .i64 0, .int .i64 0, .bool false]) ∧ w = w' := by
  have c2 := s.hq.cell (i := 2) rfl
  rcases s.own with ⟨hl, ⟨rfl, hn⟩ | ⟨g, cap, cur, rfl, _, _, _, hc, _⟩⟩
  · clear hn hl s
    go_enter Try.func10, Try.ntmps10
    go_wp2
    go_ret3
    exact ⟨rfl, rfl⟩
  · clear hl s
    go_enter Try.func10, Try.ntmps10
    go_wp2
    go_ret3
    exact ⟨rfl, rfl⟩
def PopP (w : World) (q : Nat) (v : Value) (room turns : Int) (h : List It) (e : Ending) (w' : World) : Prop :=
  e = .returned (.tuple #[.int .i64 (at_ h 0).v, .int .i64 (at_ h 0).rank, .bool true]) ∧ ∃ v', Qs w' q v' room turns (takeL h 0) ∧ Kept (q :: v.ownBlock.toList) w w' ∧ v'.ownBlock = v.ownBlock
set_option maxRecDepth 100000 in
set_option maxHeartbeats 3200000 in
theorem pop_some (q : Nat) (v : Value) (room turns : Int) (h : List It) (w : World) (s : Qs w q v room turns h) (h0 : 0 < h.length) (hb : h.length ≤ 1000000) :
    Calls Try.prog 10 #[.pointer (some ⟨q, 0, none⟩)] w (PopP w q v room turns h) := by
  obtain ⟨g, cap, rest, rfl, m⟩ := s.toQm h0
  clear s
  have c2 : w.cell? ⟨q, 2, none⟩ = some (.slice (some ⟨g, 0, none⟩) h.length cap) := m.hq.cell (i := 2) rfl
  have hz : ((h.length : Int) == 0) = false := beq_eq_false_iff_ne.2 (by omega)
  have HT := Lib.hid (take_any q g cap 0 0 room turns h rest w m h0 hb rfl)
  have HP := Lib.hid (show PopP w q (.slice (some ⟨g, 0, none⟩) h.length cap) room turns h = fun e w' => e = .returned (.tuple #[.int .i64 (at_ h 0).v, .int .i64 (at_ h 0).rank, .bool true]) ∧ ∃ v', Qs w' q v' room turns (takeL h 0) ∧ Kept (q :: (Value.slice (some ⟨g, 0, none⟩) h.length cap).ownBlock.toList) w w' ∧ v'.ownBlock = (Value.slice (some ⟨g, 0, none⟩) h.length cap).ownBlock from rfl)
  have H0 := Lib.hid h0
  clear m h0
  go_enter Try.func10, Try.ntmps10
  go_wp2_with fail
  refine HT.out.mono ?_
  rintro e w1 ⟨rfl, m1, hk1⟩
  rw [show (itc (at_ h 0)).toArray = #[.int .i64 (at_ h 0).rank, .int .i64 (at_ h 0).turn, .int .i64 (at_ h 0).v] from rfl]
  have hsz := hk1.size
  go_upto_region 5 with fail
  have b := Blk.new' w1 #[.int .i64 (at_ h 0).rank, .int .i64 (at_ h 0).turn, .int .i64 (at_ h 0).v] 55
  have k0 := b.cell (i := 0) rfl
  have k2 := b.cell (i := 2) rfl
  clear b c2
  go_quiet (fail)
  go_wp2
  go_ret3
  rw [HP.out]
  have m2 := m1.frame (bs := []) (((Kept.refl _ _).alloc (.cells #[.int .i64 (at_ h 0).rank, .int .i64 (at_ h 0).turn, .int .i64 (at_ h 0).v] 55)).drewN nq) (by simp) (by simp)
  exact ⟨rfl, _, m2.toQs, (hk1.alloc _).drewN nq, rfl⟩
theorem ahB_t {x y : It} (h : x.rank < y.rank ∨ (x.rank = y.rank ∧ x.turn < y.turn)) : ahB x y = true := decide_eq_true h
theorem ahB_f {x y : It} (h : ¬ (x.rank < y.rank ∨ (x.rank = y.rank ∧ x.turn < y.turn))) : ahB x y = false := decide_eq_false h
theorem aw1 : addL [] ⟨5, 1, 10⟩ = [⟨5, 1, 10⟩] := up_zero _
theorem aw2 : addL [⟨5, 1, 10⟩] ⟨1, 2, 20⟩ = [⟨1, 2, 20⟩, ⟨5, 1, 10⟩] := by
  unfold addL
  show upL [⟨5, 1, 10⟩, ⟨1, 2, 20⟩] 1 = _
  rw [up_go _ _ (by omega) (by decide)]
  exact up_zero _
theorem aw3 : addL [⟨1, 2, 20⟩, ⟨5, 1, 10⟩] ⟨3, 3, 30⟩ = [⟨1, 2, 20⟩, ⟨5, 1, 10⟩, ⟨3, 3, 30⟩] := by
  unfold addL
  show upL [⟨1, 2, 20⟩, ⟨5, 1, 10⟩, ⟨3, 3, 30⟩] 2 = _
  rw [up_stop _ _ (by decide)]
theorem aw4 : lastK [⟨1, 2, 20⟩, ⟨5, 1, 10⟩, ⟨3, 3, 30⟩] 3 = 1 := by decide
theorem aw5 : takeL [⟨1, 2, 20⟩, ⟨5, 1, 10⟩, ⟨3, 3, 30⟩] 1 = [⟨1, 2, 20⟩, ⟨3, 3, 30⟩] := by
  unfold takeL
  show (if 1 < 2 then upL (downL [⟨1, 2, 20⟩, ⟨3, 3, 30⟩] 1) 1 else _) = _
  rw [if_pos (by omega), down_end _ _ (by decide), up_stop _ _ (by decide)]
theorem aw0 : ([⟨1, 2, 20⟩, ⟨5, 1, 10⟩, ⟨3, 3, 30⟩] : List It).length = 3 := rfl
theorem aw6 : (at_ [⟨1, 2, 20⟩, ⟨5, 1, 10⟩, ⟨3, 3, 30⟩] 1).v = 10 := rfl
theorem aw7 : (at_ [⟨1, 2, 20⟩, ⟨3, 3, 30⟩] 0).v = 20 := rfl
theorem aw8 : (at_ [⟨1, 2, 20⟩, ⟨3, 3, 30⟩] 0).rank = 1 := rfl
/-- A queue of the call's own: what it has written lies in new blocks. -/
structure QW (w wi : World) (q : Nat) (v : Value) : Prop where
  kept : Kept [] w wi
  hq : w.heap.size ≤ q
  hv : ∀ g, v.ownBlock = some g → w.heap.size ≤ g
theorem QW.next {w wi wj : World} {q : Nat} {v v' : Value} (x : QW w wi q v) (hk : Kept (q :: v.ownBlock.toList) wi wj) (hn : v'.ownBlock = v.ownBlock ∨ ∃ g, v'.ownBlock = some g ∧ wi.heap.size ≤ g) : QW w wj q v' := by
  refine ⟨x.kept.trans hk (fun _ h => h) (fun y hy => ?_), x.hq, fun g hg => ?_⟩
  · simp at hy
    rcases hy with rfl | hy
    · exact .inr x.hq
    · exact .inr (x.hv y hy)
  · rcases hn with h1 | ⟨g', h1, h2⟩
    · exact x.hv g (h1 ▸ hg)
    · rw [h1] at hg
      have := x.kept.size
      simp only [Option.some.injEq] at hg
      omega
theorem QW.new {w w1 : World} (hk : Kept [] w w1) : QW w w1 w.heap.size (.slice none 0 0) := ⟨hk, Nat.le_refl _, fun g h => by simp [Value.ownBlock] at h⟩
set_option maxRecDepth 100000 in
set_option maxHeartbeats 3200000 in
theorem qawake_any (w : World) : Calls Try.prog 7 #[] w fun e w' => e = .returned (.bool true) ∧ Kept [] w w' := by
  go_enter Try.func7, Try.ntmps7
  go_wp2_with fail
  refine (new_any 2 _ (by omega) (by omega)).mono ?_
  rintro e w1 ⟨rfl, hb1, hk1⟩
  have s1 := Qs.new hb1
  have x1 := QW.new hk1
  go_wp2_with fail
  refine (push_any w.heap.size _ 2 0 5 10 [] _ s1 (by simp) (by omega) (by omega)).mono ?_
  rintro e w2 ⟨v2, hp2, hk2, hn2⟩
  rw [show (0 : Int) + 1 = 1 by rfl, aw1, if_neg (by decide)] at hp2
  obtain ⟨rfl, s2⟩ := hp2
  have x2 := x1.next hk2 hn2
  go_wp2_with fail
  refine (push_any w.heap.size _ 2 1 1 20 _ _ s2 (by simp) (by omega) (by omega)).mono ?_
  rintro e w3 ⟨v3, hp3, hk3, hn3⟩
  rw [show (1 : Int) + 1 = 2 by rfl, aw2, if_neg (by decide)] at hp3
  obtain ⟨rfl, s3⟩ := hp3
  have x3 := x2.next hk3 hn3
  go_wp2_with fail
  refine (push_any w.heap.size _ 2 2 3 30 _ _ s3 (by simp) (by omega) (by omega)).mono ?_
  rintro e w4 ⟨v4, hp4, hk4, hn4⟩
  rw [show (2 : Int) + 1 = 3 by rfl, aw3, if_pos (by decide)] at hp4
  rw [aw0, aw4, aw5, aw6] at hp4
  obtain ⟨rfl, s4⟩ := hp4
  have x4 := x3.next hk4 hn4
  clear s1 s2 s3 hb1 hk1 hk2 hk3 hk4 hn2 hn3 hn4 x1 x2 x3
  go_wp2_with fail
  refine (pop_some w.heap.size _ 2 3 _ _ s4 (by simp) (by simp)).mono ?_
  rintro e w5 ⟨he, v5, s5, hk5, hn5⟩
  rw [aw7, aw8] at he
  subst he
  have x5 := x4.next hk5 (.inl hn5)
  clear s4 s5 hk5 hn5 x4
  go_wp2
  go_ret
  exact ⟨rfl, x5.kept⟩
set_option maxHeartbeats 800000 in
theorem snew_any (room : Int) (w : World) (h1 : 1 ≤ room) (h2 : room ≤ 256) :
    Calls Try.prog 12 #[.int .i64 room] w fun e w' => e = .returned (.tuple #[.pointer (some ⟨w.heap.size, 0, none⟩), .int .i64 0]) ∧ Blk w' w.heap.size [.int .i64 room, .int .i64 0, .slice none 0 0] 60 ∧ Kept [] w w' := by
  have g1 : decide (room < 1) = false := by simp; omega
  have g2 : decide (256 < room) = false := by simp; omega
  go_enter Try.func12, Try.ntmps12
  go_wp2
  go_ret2
  exact ⟨rfl, Blk.new' _ _ _, (Kept.refl _ _).alloc _⟩
set_option maxHeartbeats 800000 in
theorem snew_bad (room : Int) (w : World) (h : room < 1 ∨ 256 < room) :
    Calls Try.prog 12 #[.int .i64 room] w fun e w' => e = .returned (.tuple #[.pointer none, .int .i64 1]) ∧ w = w' := by
  rcases h with h | h
  · have g1 : decide (room < 1) = true := by simp; omega
    go_enter Try.func12, Try.ntmps12
    go_wp2
    go_ret2
    exact ⟨rfl, rfl⟩
  · have g1 : decide (room < 1) = false := by simp; omega
    have g2 : decide (256 < room) = true := by simp; omega
    go_enter Try.func12, Try.ntmps12
    go_wp2
    go_ret2
    exact ⟨rfl, rfl⟩
set_option maxHeartbeats 800000 in
theorem sroom_any (q : Nat) (room turns : Int) (v : Value) (w : World) (hb : Blk w q [.int .i64 room, .int .i64 turns, v] 60) :
    Calls Try.prog 13 #[.pointer (some ⟨q, 0, none⟩)] w fun e w' => e = .returned (.int .i64 room) ∧ w = w' := by
  have c0 := hb.cell (i := 0) rfl
  clear hb
  go_enter Try.func13, Try.ntmps13
  go_wp2
  go_ret
  exact ⟨rfl, rfl⟩
set_option maxHeartbeats 800000 in
theorem slen_any (q : Nat) (room turns : Int) (w : World) (hb : Blk w q [.int .i64 room, .int .i64 turns, .slice none 0 0] 60) :
    Calls Try.prog 14 #[.pointer (some ⟨q, 0, none⟩)] w fun e w' => e = .returned (.int .i64 0) ∧ w = w' := by
  have c0 := hb.cell (i := 2) rfl
  clear hb
  go_enter Try.func14, Try.ntmps14
  go_wp2
  go_ret
  exact ⟨rfl, rfl⟩
set_option maxRecDepth 100000 in
set_option maxHeartbeats 1600000 in
theorem law_rooms (room : Int) (w : World) :
    Calls Try.prog 4 #[.int .i64 room] w fun e w' => e = .returned (.bool true) ∧ Kept [] w w' := by
  by_cases h : room < 1 ∨ 256 < room
  · have HN := Lib.hid (fun w => snew_bad room w h)
    rcases h with h | h
    · have g1 : decide (room < 1) = true := by simp; omega
      go_enter Try.func4, Try.ntmps4
      go_wp2_with fail
      refine (qawake_any _).mono ?_
      rintro e w1 ⟨rfl, hk1⟩
      go_wp2_with fail
      refine (HN.out _).mono ?_
      rintro e w2 ⟨rfl, rfl⟩
      go_wp2
      go_ret
      exact ⟨rfl, hk1⟩
    · have g1 : decide (room < 1) = false := by simp; omega
      have g2 : decide (256 < room) = true := by simp; omega
      go_enter Try.func4, Try.ntmps4
      go_wp2_with fail
      refine (qawake_any _).mono ?_
      rintro e w1 ⟨rfl, hk1⟩
      go_wp2_with fail
      refine (HN.out _).mono ?_
      rintro e w2 ⟨rfl, rfl⟩
      go_wp2
      go_ret
      exact ⟨rfl, hk1⟩
  · have g1 : decide (room < 1) = false := by simp; omega
    have g2 : decide (256 < room) = false := by simp; omega
    have g3 : (room == room) = true := by simp
    have HN := Lib.hid (fun w => snew_any room w (by omega) (by omega))
    clear h
    go_enter Try.func4, Try.ntmps4
    go_wp2_with fail
    refine (qawake_any _).mono ?_
    rintro e w1 ⟨rfl, hk1⟩
    go_wp2_with fail
    refine (HN.out _).mono ?_
    rintro e w2 ⟨rfl, hb2, hk2⟩
    go_wp2_with fail
    refine (sroom_any _ _ _ _ _ hb2).mono ?_
    rintro e w3 ⟨rfl, rfl⟩
    go_wp2_with fail
    refine (slen_any _ _ _ _ hb2).mono ?_
    rintro e w3 ⟨rfl, rfl⟩
    go_wp2
    go_ret
    exact ⟨rfl, hk1.trans0 hk2⟩
end Go.Proofs.Ythpdoekeooedfaa
