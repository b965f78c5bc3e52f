import Derived.Test.YthkjllphefnphaaPathS
import Derived.Deep.DeepCutAuto
import Derived.Deep.RegionHeld3
namespace Go.Proofs.Ythkjllphefnphaa
open Go Go.RowKit
theorem infoSt : (Try.prog.info? 32).map (·.size) = some 5 := by kernel_rfl
theorem stc_one (s : St) : ∀ v ∈ stc s, v.oneCell' = true := by
  intro v hv
  simp only [stc, List.mem_cons, List.not_mem_nil, or_false] at hv
  rcases hv with rfl | rfl | rfl | rfl | rfl <;> rfl
theorem exec_St (w : World) (ev : Operand → Value) (dst : Option Tmp) (x : Operand) (t2 : TypeId) (pos : String) (af : Array Edge) (g : Option (Nat × Bool)) (h : goodPtr w 5 (ev x) = true) :
    (execOp ev { dst := dst, op := .load 32 x, type := t2, pos := pos, after := af, guard := g }).run Try.prog w = .ok (.value (.agg (rowAt w (ev x)))) w :=
  exec_row 32 5 _ Try.underlying32 rfl infoSt ev _ x rfl h
def absI (n : Int) : Int := if n < 0 then -n else n
theorem abs_any0 (n : Int) (w : World) (h1 : -1000000 ≤ n) (h2 : n ≤ 1000000) :
    Calls Try.prog 27 #[.int .i64 n] w fun e w' => e = .returned (.int .i64 (absI n)) ∧ w = w' := by
  have g1 : (n == -9223372036854775808) = false := by rw [beq_eq_false_iff_ne]; omega
  by_cases h : n < 0
  · have z := Lib.hid (show absI n = -n from if_pos h)
    go_enter Try.func27, Try.ntmps27
    go_wp2
    go_ret
    exact ⟨by rw [z.out]; rfl, rfl⟩
  · have z := Lib.hid (show absI n = n from if_neg h)
    go_enter Try.func27, Try.ntmps27
    go_wp2
    go_ret
    exact ⟨by rw [z.out]; rfl, rfl⟩
theorem abs_any (n : Int) (w : World) (h1 : -1000000 ≤ n) (h2 : n ≤ 1000000) :
    Calls Try.prog 27 #[.int .i64 n] w fun e w' => e = .returned (.int .i64 (if n < 0 then -n else n)) ∧ w = w' := abs_any0 n w h1 h2
set_option maxHeartbeats 1600000 in
theorem trip_any (b o : Nat) (xs : List Value) (T : TypeId) (s : St) (x : Int) (w : World) (hb : Blk w b xs T) (hp : Part xs o (stc s)) (hs : StOk s 1000000) :
    Calls Try.prog 15 #[.pointer (some ⟨b, o, none⟩), .int .i64 x] w fun e w' => e = .returned (.tuple #[]) ∧ Blk w' b (setAll xs o (stc (tripS s x))) T ∧ Kept [b] w w' := by
  have c1 := hb.part hp 1 _ rfl
  have c2 := hb.part hp 2 _ rfl
  have c4 := hb.part hp 4 _ rfl
  have hf := hb.free
  have hb' : Blk w b (setAll xs o (stc s)) T := by rw [hp.self]; exact hb
  obtain ⟨_, ⟨r1, r2⟩, ⟨v1, v2⟩, _, ⟨t1, t2⟩⟩ := hs
  have hC := Lib.hid (show max 0 (min x (max 0 2000)) = max 0 (min x 2000) by omega)
  have hcl := Lib.hid (show clt x = 8 * max 0 (min x 2000) from rfl)
  have hcb : 0 ≤ max 0 (min x 2000) ∧ max 0 (min x 2000) ≤ 2000 := by omega
  by_cases h0 : s.trips = 0
  · have z := Lib.hid (show tripS s x = { s with rtt := clt x, var := clt x / 2, trips := s.trips + 1 } by unfold tripS; rw [if_pos h0])
    have e1 := hb'.setp hp rfl 1 (.int .i64 (clt x)) (by simp [stc])
    have e2 := e1.setp hp (by simp) 2 (.int .i64 (clt x / 2)) (by simp [stc])
    have e4 := e2.setp hp (by simp) 4 (.int .i64 (s.trips + 1)) (by simp [stc])
    have E := Lib.hid e4
    have K := Lib.hid ((((Kept.refl [b] w).setCell (p := ⟨b, o + 1, none⟩) (.inl (by simp)) (.int .i64 (clt x))).setCell (p := ⟨b, o + 2, none⟩) (.inl (by simp)) (.int .i64 (clt x / 2))).setCell (p := ⟨b, o + 4, none⟩) (.inl (by simp)) (.int .i64 (s.trips + 1)))
    have b0 : (s.trips == 0) = true := by rw [h0]; rfl
    rw [hcl.out] at E K z
    generalize max 0 (min x 2000) = c at *
    obtain ⟨hc0, hc1⟩ := hcb
    clear hb hp hb' e1 e2 e4 h0
    go_enter Try.func15, Try.ntmps15
    go_wp2_with fail
    refine (clamp_any x 0 2000 _).mono ?_
    rintro e w1 ⟨rfl, rfl⟩
    rw [hC.out]
    go_wp2
    go_end0
    exact ⟨rfl, by rw [z.out]; exact E.out, K.out⟩
  · have b0 : (s.trips == 0) = false := by rw [beq_eq_false_iff_ne]; exact h0
    have z := Lib.hid (show tripS s x = { s with var := tow s.var (if clt x - s.rtt < 0 then -(clt x - s.rtt) else clt x - s.rtt) 4, rtt := tow s.rtt (clt x) 8, trips := s.trips + 1 } by unfold tripS; rw [if_neg h0])
    have e1 := hb'.setp hp rfl 2 (.int .i64 (tow s.var (if clt x - s.rtt < 0 then -(clt x - s.rtt) else clt x - s.rtt) 4)) (by simp [stc])
    have e2 := e1.setp hp (by simp) 1 (.int .i64 (tow s.rtt (clt x) 8)) (by simp [stc])
    have e4 := e2.setp hp (by simp) 4 (.int .i64 (s.trips + 1)) (by simp [stc])
    have E := Lib.hid e4
    have K := Lib.hid ((((Kept.refl [b] w).setCell (p := ⟨b, o + 2, none⟩) (.inl (by simp)) (.int .i64 (tow s.var (if clt x - s.rtt < 0 then -(clt x - s.rtt) else clt x - s.rtt) 4))).setCell (p := ⟨b, o + 1, none⟩) (.inl (by simp)) (.int .i64 (tow s.rtt (clt x) 8))).setCell (p := ⟨b, o + 4, none⟩) (.inl (by simp)) (.int .i64 (s.trips + 1)))
    rw [hcl.out] at E K z
    generalize max 0 (min x 2000) = c at *
    obtain ⟨hc0, hc1⟩ := hcb
    have habs : 0 ≤ (if 8 * c - s.rtt < 0 then -(8 * c - s.rtt) else 8 * c - s.rtt) ∧ (if 8 * c - s.rtt < 0 then -(8 * c - s.rtt) else 8 * c - s.rtt) ≤ 16000 := by split <;> omega
    have HA := Lib.hid (fun w => abs_any (8 * c - s.rtt) w (by omega) (by omega))
    generalize (if 8 * c - s.rtt < 0 then -(8 * c - s.rtt) else 8 * c - s.rtt) = d at *
    obtain ⟨hd0, hd1⟩ := habs
    have HT1 := Lib.hid (fun w => toward_any s.var d 4 w v1 (by omega) hd0 (by omega) (by omega))
    have HT2 := Lib.hid (fun w => toward_any s.rtt (8 * c) 8 w r1 (by omega) (by omega) (by omega) (by omega))
    clear hb hp hb' e1 e2 e4 h0
    go_enter Try.func15, Try.ntmps15
    go_wp2_with fail
    refine (clamp_any x 0 2000 _).mono ?_
    rintro e w1 ⟨rfl, rfl⟩
    rw [hC.out]
    go_wp2_with fail
    refine (HA.out _).mono ?_
    rintro e w1 ⟨rfl, rfl⟩
    go_wp2_with fail
    refine (HT1.out _).mono ?_
    rintro e w1 ⟨rfl, rfl⟩
    go_wp2_with fail
    refine (HT2.out _).mono ?_
    rintro e w1 ⟨rfl, rfl⟩
    go_wp2
    go_end0
    exact ⟨rfl, by rw [z.out]; exact E.out, K.out⟩
attribute [local go_sem ↓] exec_St
attribute [local go_sem] goodPtr_at rowAt_at
theorem blk_2 (w : World) (xs : Array Value) (T : TypeId) (o : Obj) : Blk ((w.alloc o).alloc (.cells xs T)) (w.heap.size + 1) xs.toList T := by
  have h := Blk.new' (w.alloc o) xs T
  rwa [show (w.alloc o).heap.size = w.heap.size + 1 by simp] at h
set_option maxHeartbeats 1600000 in
theorem rmark_any (s : St) (m : Bool) (w : World) (hs : StOk s 1000000) :
    Calls Try.prog 25 #[.agg #[.int .i64 s.loss, .int .i64 s.rtt, .int .i64 s.var, .int .i64 s.marks, .int .i64 s.trips], .bool m] w fun e w' => e = .returned (.agg (stc (markS s m)).toArray) ∧ Kept [] w w' := by
  obtain ⟨⟨l1, l2⟩, _, _, ⟨m1, m2⟩, _⟩ := hs
  have HT := Lib.hid (fun w tt (h2 : 0 ≤ tt) (h3 : tt ≤ 65535) => rtoward_any s.loss tt 16 w l1 l2 h2 h3 (by omega))
  cases m
  · go_enter Try.func25, Try.ntmps25
    go_wp2_with fail
    refine (HT.out _ 0 (by omega) (by omega)).mono ?_
    rintro e w1 ⟨rfl, rfl⟩
    go_wp2
    exact bodyPost_ret (ret_blk rfl _ (w.heap.size + 1) _ (stc (markS s false)) _ rfl (blk_2 _ _ _ _) Try.underlying32 rfl infoSt) rfl ⟨rfl, ((Kept.refl _ _).alloc _).alloc _⟩
  · go_enter Try.func25, Try.ntmps25
    go_wp2_with fail
    refine (HT.out _ 65535 (by omega) (by omega)).mono ?_
    rintro e w1 ⟨rfl, rfl⟩
    go_wp2
    exact bodyPost_ret (ret_blk rfl _ (w.heap.size + 1) _ (stc (markS s true)) _ rfl (blk_2 _ _ _ _) Try.underlying32 rfl infoSt) rfl ⟨rfl, ((Kept.refl _ _).alloc _).alloc _⟩
set_option maxHeartbeats 1600000 in
theorem rtrip_any (s : St) (x : Int) (w : World) (hs : StOk s 1000000) :
    Calls Try.prog 16 #[.agg #[.int .i64 s.loss, .int .i64 s.rtt, .int .i64 s.var, .int .i64 s.marks, .int .i64 s.trips], .int .i64 x] w fun e w' => e = .returned (.agg (stc (tripS s x)).toArray) ∧ Kept [] w w' := by
  obtain ⟨_, ⟨r1, r2⟩, ⟨v1, v2⟩, _, ⟨t1, t2⟩⟩ := hs
  obtain ⟨c, hc⟩ : ∃ c, c = max 0 (min x 2000) := ⟨_, rfl⟩
  have hcl := Lib.hid (show clt x = 8 * c by rw [hc]; rfl)
  have hc0 : 0 ≤ c := by omega
  have hc1 : c ≤ 2000 := by omega
  have HC := Lib.hid hc
  clear hc
  by_cases h0 : s.trips = 0
  · have z := Lib.hid (show tripS s x = { s with rtt := clt x, var := clt x / 2, trips := s.trips + 1 } by unfold tripS; rw [if_pos h0])
    have b0 : (s.trips + 1 == 1) = true := by rw [h0]; rfl
    rw [hcl.out] at z
    have H0 := Lib.hid h0
    clear h0
    go_enter Try.func16, Try.ntmps16
    go_upto_region 1 with fail
    go_cut [5] (fun s5 wx => s5 = .int .i64 (8 * c) ∧ wx = (w.alloc (.cells #[.int .i64 s.loss, .int .i64 s.rtt, .int .i64 s.var, .int .i64 s.marks, .int .i64 s.trips] 32)).alloc (.cells #[.int .i64 0, .int .i64 0, .int .i64 0, .int .i64 0, .int .i64 0] 32))
    case first =>
      go_wp2_with fail
      all_goals (go_meet; exact ⟨congrArg (Value.int .i64) (by rw [HC.out]; omega), rfl⟩)
    case rest =>
      obtain ⟨rfl, rfl⟩ := hcut
      go_wp2
      refine bodyPost_ret (ret_blk rfl _ (w.heap.size + 1) _ (stc (tripS s x)) _ rfl (by rw [z.out]; exact blk_2 _ _ _ _) Try.underlying32 rfl infoSt) rfl ⟨rfl, ((Kept.refl _ _).alloc _).alloc _⟩
  · have z := Lib.hid (show tripS s x = { s with var := tow s.var (if clt x - s.rtt < 0 then -(clt x - s.rtt) else clt x - s.rtt) 4, rtt := tow s.rtt (clt x) 8, trips := s.trips + 1 } by unfold tripS; rw [if_neg h0])
    have b0 : (s.trips + 1 == 1) = false := by rw [beq_eq_false_iff_ne]; omega
    rw [hcl.out] at z
    have H0 := Lib.hid h0
    clear h0
    obtain ⟨d, hd⟩ : ∃ d, d = absI (8 * c - s.rtt) := ⟨_, rfl⟩
    have hdd : (if 8 * c - s.rtt < 0 then -(8 * c - s.rtt) else 8 * c - s.rtt) = d := hd.symm
    rw [hdd] at z
    have hd2 : 0 ≤ d ∧ d ≤ 16000 := by rw [← hdd]; split <;> omega
    obtain ⟨hd0, hd1⟩ := hd2
    have HT1 := Lib.hid (fun w => rtoward_any s.var d 4 w v1 (by omega) hd0 (by omega) (by omega))
    have HT2 := Lib.hid (fun w => rtoward_any s.rtt (8 * c) 8 w r1 (by omega) (by omega) (by omega) (by omega))
    have HD := Lib.hid hdd
    clear hd hdd
    go_enter Try.func16, Try.ntmps16
    go_upto_region 1 with fail
    go_cut [5] (fun s5 wx => s5 = .int .i64 (8 * c) ∧ wx = (w.alloc (.cells #[.int .i64 s.loss, .int .i64 s.rtt, .int .i64 s.var, .int .i64 s.marks, .int .i64 s.trips] 32)).alloc (.cells #[.int .i64 0, .int .i64 0, .int .i64 0, .int .i64 0, .int .i64 0] 32))
    case first =>
      go_wp2_with fail
      all_goals (go_meet; exact ⟨congrArg (Value.int .i64) (by rw [HC.out]; omega), rfl⟩)
    case rest =>
      obtain ⟨rfl, rfl⟩ := hcut
      rcases Int.lt_or_le (8 * c - s.rtt) 0 with hn | hn
      · have e := Lib.hid (show -(8 * c - s.rtt) = d by rw [← HD.out, if_pos hn])
        go_wp2_with fail
        rw [e.out]
        refine (HT1.out _).mono ?_
        rintro e w1 ⟨rfl, rfl⟩
        go_wp2_with fail
        refine (HT2.out _).mono ?_
        rintro e w1 ⟨rfl, rfl⟩
        go_wp2
        refine bodyPost_ret (ret_blk rfl _ (w.heap.size + 1) _ (stc (tripS s x)) _ rfl (by rw [z.out]; exact blk_2 _ _ _ _) Try.underlying32 rfl infoSt) rfl ⟨rfl, ((Kept.refl _ _).alloc _).alloc _⟩
      · have e := Lib.hid (show 8 * c - s.rtt = d by rw [← HD.out, if_neg (by omega)])
        go_wp2_with fail
        rw [e.out]
        refine (HT1.out _).mono ?_
        rintro e w1 ⟨rfl, rfl⟩
        go_wp2_with fail
        refine (HT2.out _).mono ?_
        rintro e w1 ⟨rfl, rfl⟩
        go_wp2
        refine bodyPost_ret (ret_blk rfl _ (w.heap.size + 1) _ (stc (tripS s x)) _ rfl (by rw [z.out]; exact blk_2 _ _ _ _) Try.underlying32 rfl infoSt) rfl ⟨rfl, ((Kept.refl _ _).alloc _).alloc _⟩
end Go.Proofs.Ythkjllphefnphaa
