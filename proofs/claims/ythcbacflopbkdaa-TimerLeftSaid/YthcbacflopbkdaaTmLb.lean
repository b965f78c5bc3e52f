/- The law: how many ticks are left of any key. -/
import Derived.Test.YthcbacflopbkdaaTmLa
namespace Go.Proofs.Ythcbacflopbkdaa
open Go Go.RowKit
/-- Where the key stands in the list in order. -/
theorem left_find {h s : List En} {now no k : Int} (t : Tp h s now no) : (∀ i, i < s.length → (s.getD i en0).key = k → leftV now k h = ((s.getD i en0).due - now, true)) ∧ ((∀ i, i < s.length → (s.getD i en0).key ≠ k) → leftV now k h = (0, false)) := by
  refine ⟨fun i hi he => ?_, fun hn => ?_⟩
  · have hm : s.getD i en0 ∈ h := (t.mem _).1 (by simp [List.getD, hi])
    cases hk : keyAt k h with
    | none => exact absurd he (keyAt_none hk _ hm)
    | some j =>
      obtain ⟨hj, hjk⟩ := keyAt_some hk
      have e : h.getD j en0 = s.getD i en0 := by
        obtain ⟨m, hm1, hm2⟩ := List.getElem_of_mem hm
        have hpw := t.hkeys
        rw [List.pairwise_iff_getElem] at hpw
        have e1 : h.getD j en0 = h[j] := by simp [List.getD, hj]
        rcases Nat.lt_trichotomy j m with g | g | g
        · have := hpw j m hj hm1 g
          rw [hm2, ← e1, hjk, he] at this
          exact absurd rfl this
        · subst g; rw [e1, hm2]
        · have := hpw m j hm1 hj g
          rw [hm2, ← e1, hjk, he] at this
          exact absurd rfl this
      unfold leftV
      rw [hk]
      simp only
      rw [e]
  · cases hk : keyAt k h with
    | none => unfold leftV; rw [hk]
    | some j =>
      obtain ⟨hj, hjk⟩ := keyAt_some hk
      have hm : h.getD j en0 ∈ s := (t.mem _).2 (by simp [List.getD, hj])
      obtain ⟨m, hm1, hm2⟩ := List.getElem_of_mem hm
      exact absurd (show (s.getD m en0).key = k by rw [show s.getD m en0 = s[m] by simp [List.getD, hm1], hm2, hjk]) (hn m hm1)
set_option maxRecDepth 100000 in
set_option maxHeartbeats 6400000 in
theorem law_timer_left (room key : Int) (a : Option Addr) (len cap : Nat) (w : World) (hA : Ops w a len cap) :
    Calls Try.prog 6 #[.int .i64 room, .slice a len cap, .int .i64 key] w fun e w' => e = .returned (.bool true) ∧ Kept [] w w' := by
  have HA := hx hA
  clear hA
  go_enter Try.func6, Try.ntmps6
  go_wp2_with fail
  refine (tawake_any _).mono ?_
  rintro e w1 ⟨rfl, hk1⟩
  have HK1 := hx hk1
  have HP := hx (tplayed_any room a len cap w1 (HA.out.kept hk1))
  clear hk1 HA
  go_wp2_with fail
  refine HP.out.mono ?_
  rintro e w2 hp
  rcases hp with ⟨rfl, hk2⟩ | ⟨hr1, hr2, q, v, now, no, h, s, b, n, c, rfl, hd, _⟩
  · have HK2 := hx ((HK1.out.trans0 hk2).alloc (.cells #[.int .i64 room, .int .i64 0, .slice none 0 0] 34))
    clear hk2 HK1 HP
    go_wp2_with fail
    go_ret
    exact ⟨rfl, HK2.out⟩
  · have HD := hx hd
    have HR := hx (And.intro hr1 hr2)
    have HB := hx (Blk.new w2 (set3 room now (.slice b n c)) 34)
    have HD2 := hx (HD.out.kept ((Kept.refl [] w2).alloc (.cells #[.int .i64 room, .int .i64 now, .slice b n c] 34)))
    have HK2 := hx ((HK1.out.trans0 hd.k).alloc (.cells #[.int .i64 room, .int .i64 now, .slice b n c] 34))
    have HLF := hx (left_find (k := key) hd.tp)
    have HN := hx (show h.length ≤ 1000 ∧ n ≤ 100 by have h1 := hd.tp.len; have h2 := hd.hr; have h3 := hd.hn; omega)
    clear hd hr1 hr2 HK1 HP HD
    go_wp2_with fail
    generalize w2.heap.size = b8 at *
    generalize w2.alloc (.cells #[.int .i64 room, .int .i64 now, .slice b n c] 34) = w3 at *
    have HL := hx (tleft_any q v room now no key h w3 HD2.out.ts (by have := HN.out; omega) HD2.out.tp.now0 HD2.out.tp.now1 (fun x hx => HD2.out.tp.due x ((HD2.out.tp.mem x).2 hx)))
    generalize hlv : leftV now key h = lv at *
    obtain ⟨l1, l2⟩ := lv
    clear hlv
    refine HL.out.mono ?_
    rintro e w4 ⟨rfl, hk4⟩
    have HD4 := hx (HD2.out.kept hk4)
    have HB4 := hx (hk4.blk HB.out (by simp))
    have HK4 := hx (HK2.out.trans0 hk4)
    clear hk4 HL HB HD2 HK2
    go_wp2_with fail
    go_loopw [12] (fun iv wr => ∃ i : Nat, i ≤ n ∧ iv = .int .i64 i ∧ Kept [] w4 wr ∧ Hx (∀ j, j < i → (s.getD j en0).key ≠ key)) (fun iv _ => n - (intOf iv).toNat)
    case atStart => exact ⟨0, by omega, rfl, Kept.refl _ _, ⟨fun j hj => by omega⟩⟩
    case round =>
      obtain ⟨i, hi, rfl, hk, hno⟩ := hrel
      have HK := hx hk
      clear hk
      have HB5 := hx (HK.out.blk HB4.out (by simp))
      have c1 := HB5.out.cell (i := 1) rfl
      have c2 := HB5.out.cell (i := 2) rfl
      have hn100 : n ≤ 100 := HN.out.2
      by_cases hlt : i < n
      · have hli : (i : Int) < (n : Int) := by omega
        have hi0 : (0 : Int) ≤ (i : Int) := by omega
        have his : i < s.length := by have := HD4.out.hn; omega
        obtain ⟨g, off, rfl, e1, e2⟩ := (HD4.out.ls.kept HK.out).cell i (by simpa using his)
        have ey : (s.map pr).getD i (0, 0) = ((s.getD i en0).key, (s.getD i en0).due) := by simp [List.getD, his, pr]
        rw [ey] at e1 e2
        have HY := hx (HLF.out.1 i his)
        have hdx := HD4.out.tp.due (s.getD i en0) (by simp [List.getD, his])
        have hn0 := HD4.out.tp.now0
        have hn1 := HD4.out.tp.now1
        have hsub : IntKind.i64.wrap ((s.getD i en0).due - now) = (s.getD i en0).due - now := IntWalk.i64_in _ (by omega)
        have HSX := hx (show ∀ j, j < i + 1 → (s.getD i en0).key ≠ key → (s.getD j en0).key ≠ key from fun j hj hne => by
          by_cases e : j = i
          · subst e; exact hne
          · exact hno.out j (by omega))
        generalize s.getD i en0 = y at *
        simp only at e1 e2
        clear ey hdx hn0 hn1
        by_cases hy : y.key = key
        · have HE := hx (HY.out hy)
          have hyd : (y.key == key) = true := by simpa using hy
          have h1 : l1 = y.due - now := by have := HE.out; simp at this; exact this.1
          have h2 : l2 = true := by have := HE.out; simp at this; exact this.2
          subst h1
          subst h2
          clear hy HSX
          go_wp2_with fail
          go_quiet (fail)
          have HQ := hx (HK4.out.trans0 (HK.out.trans0 ((Kept.refl [] wr).drewN nq)))
          go_wp2
          go_ret
          exact ⟨ret_bool (by simp), HQ.out⟩
        · have hyd : (y.key == key) = false := by simpa using hy
          have HS2 := hx (fun j (hj : j < i + 1) => HSX.out j hj hy)
          clear hy HSX
          go_wp2
          go_roundw
          case rel => exact ⟨i + 1, by omega, by go_num, HK.out, HS2⟩
          case measure => simp [intOf] <;> omega
      · obtain rfl : i = n := by omega
        have HE := hx (HLF.out.2 (fun j hj => hno.out j (by have := HD4.out.hn; omega)))
        have h1 : l1 = 0 := by have := HE.out; simp at this; exact this.1
        have h2 : l2 = false := by have := HE.out; simp at this; exact this.2
        subst h1
        subst h2
        go_wp2
        go_ret
        exact ⟨ret_bool (by simp), HK4.out.trans0 HK.out⟩
end Go.Proofs.Ythcbacflopbkdaa
