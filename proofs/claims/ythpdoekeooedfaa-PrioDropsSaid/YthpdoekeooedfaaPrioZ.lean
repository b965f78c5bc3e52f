/- The iterator over the program's queue. -/
import Derived.Test.YthpdoekeooedfaaPrioY
import Derived.Test.YthpdoekeooedfaaSeqX
namespace Go.Proofs.Ythpdoekeooedfaa
open Go Go.RowKit Go.Shelf
attribute [local go_sem] Oper.semAt_some
theorem own_kept3 {w w2 : World} {base size : Nat} {e : TypeId} {v : Value} {n : Nat} {xs : List Value} (h : w.ownsRow base e size v n xs) (hk : ∀ g cs, v.ownBlock = some g → w.heap[g]? = some (.cells cs e (0, 0)) → w2.heap[g]? = w.heap[g]?) : w2.ownsRow base e size v n xs := by
  refine ⟨h.1, ?_⟩
  rcases h.2 with hn | ⟨g, cap, cur, rfl, hb, hg, rest⟩
  · exact .inl hn
  · exact .inr ⟨g, cap, cur, rfl, hb, (hk g cur rfl hg).trans hg, rest⟩
theorem Qs.kept {w w2 : World} {q : Nat} {v : Value} {room turns : Int} {h : List It} (s : Qs w q v room turns h) (hk : Kept [] w w2) : Qs w2 q v room turns h :=
  ⟨hk.blk s.hq (by simp), own_kept3 s.own (fun g cs _ hg => hk.block g (Array.getElem?_eq_some_iff.1 hg).1 (by simp)), s.ne⟩
/-- All cells but those of bs stay. -/
structure KpC (bs : List Nat) (A C : World) : Prop where
  size : A.heap.size ≤ C.heap.size
  same : ∀ b o, A.heap[b]? = some o → o.isCells = true → b ∉ bs → C.heap[b]? = A.heap[b]?
theorem kpc_t {bs : List Nat} {A B C : World} (h : KpC bs A B) (k : KpC bs B C) : KpC bs A C :=
  ⟨Nat.le_trans h.size k.size, fun b o ho hc hn => by
    have h1 := h.same b o ho hc hn
    rw [k.same b o (h1.trans ho) hc hn, h1]⟩
theorem kpc_b {bs : List Nat} (W : World) (l : Nat) (o o' : Obj) (hl : W.heap[l]? = some o) (hc : o.isCells = false) : KpC bs W (W.putObj l o') :=
  ⟨by simp [World.putObj], fun b p hp hpc _ => by
    have hne : b ≠ l := by
      rintro rfl
      rw [hl] at hp
      simp only [Option.some.injEq] at hp
      rw [hp, hpc] at hc
      cases hc
    exact World.putObj_heap_other hne⟩
theorem Blk.kpc {bs : List Nat} {A C : World} {b : Nat} {xs : List Value} {T : TypeId} (h : Blk A b xs T) (hk : KpC bs A C) (hn : b ∉ bs) : Blk C b xs T := by
  unfold Blk at *
  rw [hk.same b _ h rfl hn]
  exact h
theorem Qs.kpc {bs : List Nat} {A C : World} {q : Nat} {v : Value} {room turns : Int} {h : List It} (s : Qs A q v room turns h) (hk : KpC bs A C) (hq : q ∉ bs) (hv : ∀ g, v.ownBlock = some g → g ∉ bs) : Qs C q v room turns h :=
  ⟨s.hq.kpc hk hq, own_kept3 s.own (fun g cs hg hc => hk.same g _ hc rfl (hv g hg)), s.ne⟩
def popE : List It → Ending
  | [] => .returned (.tuple #[.int .i64 0, .int .i64 0, .bool false])
  | x :: _ => .returned (.tuple #[.int .i64 x.v, .int .i64 x.rank, .bool true])
theorem popS (q : Nat) (v : Value) (room turns T : Int) (h s : List It) (w : World) (hq : Qs w q v room turns h) (hr : Rp h T s) (hb : s.length ≤ 1000000) :
    Calls Try.prog 10 #[.pointer (some ⟨q, 0, none⟩)] w fun e w' => e = popE s ∧ ∃ v' h', Qs w' q v' room turns h' ∧ Rp h' T s.tail ∧ v'.ownBlock = v.ownBlock ∧ Kept (q :: v.ownBlock.toList) w w' := by
  cases s with
  | nil =>
    obtain rfl : h = [] := List.eq_nil_of_length_eq_zero (by have := hr.len; simpa using this.symm)
    refine (pop_none q v room turns w hq).mono ?_
    rintro e w' ⟨rfl, rfl⟩
    exact ⟨rfl, v, [], hq, hr, rfl, Kept.refl _ _⟩
  | cons x s =>
    have hl := hr.len
    simp only [List.length_cons] at hl hb
    obtain ⟨h1, h2⟩ := hr.pop
    refine (pop_some q v room turns h w hq (by omega) (by omega)).mono ?_
    rintro e w' ⟨rfl, v', hq', hk', hv'⟩
    exact ⟨by rw [h1]; rfl, v', _, hq', h2, hv', hk'⟩
abbrev encA (x : Int × Int) : Array Value := #[.int .i64 x.1, .int .i64 x.2]
def lenAt (w : World) (q : Nat) : Nat := match w.cell? ⟨q, 2, none⟩ with | some (.slice _ n _) => n | _ => 0
theorem len_at {w : World} {q : Nat} {v : Value} {room turns : Int} {h : List It} (s : Qs w q v room turns h) : lenAt w q = h.length := by
  obtain ⟨a, c, hv⟩ := own_slice s.own
  unfold lenAt
  rw [s.hq.cell (i := 2) rfl, hv]
/-- What the loop holds: the one that came last, and those that are left. -/
def LoI (s : List It) (pre : List (Int × Int)) (a b c : Value) (r : List It) : Prop :=
  (∃ x, a = .int .i64 x.v ∧ b = .int .i64 x.rank ∧ c = .bool true ∧ s.map pr = pre ++ pr x :: r.map pr) ∨ (c = .bool false ∧ s.map pr = pre ∧ r = [])
theorem pop_lo (s : List It) (pre : List (Int × Int)) (r : List It) (h : s.map pr = pre ++ r.map pr) : ∃ a b c, popE r = .returned (.tuple #[a, b, c]) ∧ LoI s pre a b c r.tail := by
  cases r with
  | nil => exact ⟨_, _, _, rfl, .inr ⟨rfl, by simpa using h, rfl⟩⟩
  | cons x r => exact ⟨_, _, _, rfl, .inl ⟨x, rfl, rfl, rfl, by simpa using h⟩⟩
def meA (c : Value) (w : World) (q : Nat) : Nat := match c with | .bool true => lenAt w q + 1 | _ => 0
theorem kept_below {B : Nat} {bs : List Nat} {A C : World} (h : Kept bs A C) (hb : ∀ b, b ∈ bs → B ≤ b) (hA : B ≤ A.heap.size) : Below B A C :=
  ⟨h.os, h.tape, h.output, h.size, fun k hk => h.block k (by omega) (fun hc => by have := hb k hc; omega)⟩
set_option maxRecDepth 100000 in
set_option maxHeartbeats 4000000 in
theorem all_stops (n Bq q : Nat) (v : Value) (room turns T : Int) (h s : List It) (bs : List Nat) (w : World) (hBq : w.cell? ⟨Bq, 0, none⟩ = some (.pointer (some ⟨q, 0, none⟩))) (hQ : Qs w q v room turns h) (hR : Rp h T s) (hbs : ∀ b, b ∈ bs → b < w.heap.size) (hb : h.length ≤ 1000) (hn : 1 ≤ n) :
    SeqX Fence.wide n Try.prog 22 #[.pointer (some ⟨Bq, 0, none⟩)] encA (KpC bs) (fun xs => xs = s.map pr) (fun pre => pre <+: s.map pr) s.length w := fun l J Jx W hW hJ hJx hY h0 => by
  have hkW := Kept.ofBelow hW
  have hQW := hQ.kept hkW
  have hBW := kept_cell hkW hBq
  have hsz := hkW.size
  have HJ := hx hJ
  have HY := hx hY
  have HR := hx hR
  have HBS := hx (fun b hb' => Nat.lt_of_lt_of_le (hbs b hb') hsz)
  have H0 := hx h0
  have HCL := hx (clone_any q v room turns h W hQW hb)
  have hsl : s.length ≤ 1000 := by rw [hR.len]; exact hb
  have HSL := hx hsl
  clear hQ hQW hkW hBq hJ hY hR hbs h0 hJx hsl
  refine callsIn_of_wp Try.func22 rfl trivial ?_ rfl
  simp only [Try.ntmps22, List.size_toArray, List.length_cons, List.length_nil, Nat.reduceAdd, Nat.reduceSub, Array.replicate_succ, Array.replicate_zero, List.push_toArray, List.append_toArray, List.nil_append, List.cons_append]
  gi_wp2
  refine ⟨trivial, (callsIn_wide.2 HCL.out).mono ?_⟩
  rintro e w1 ⟨qc, vc, rfl, hqc, hq1, hv1, hk1⟩
  have HQ1 := hx hq1
  have HV1 := hx hv1
  have HK1 := hx hk1
  have HP1 := hx (popS qc vc room turns T h s w1 hqc HR.out (by have := HSL.out; omega))
  clear hqc hq1 hv1 hk1 HCL
  gi_wp2
  refine ⟨trivial, (callsIn_wide.2 HP1.out).mono ?_⟩
  rintro e w2 ⟨rfl, v2, h2, hqs2, hr2, hvv2, hk2⟩
  have HQS2 := hx hqs2
  have HR2 := hx hr2
  have HVV2 := hx hvv2
  have HK2 := hx (show Kept [] W w2 from HK1.out.trans hk2 (fun _ h => h) (fun x hx => by
    simp only [List.mem_cons] at hx
    rcases hx with rfl | hx
    · exact .inr HQ1.out
    · refine .inr (HV1.out x ?_)
      simpa using hx))
  clear hqs2 hr2 hvv2 hk2 HP1
  obtain ⟨ea, eb, ec, he, hlo⟩ := pop_lo s [] s rfl
  rw [he]
  have HLO := hx hlo
  have HJ2 := hx (HJ.out [] W w2 H0.out (kept_below HK2.out (by simp) (Nat.le_refl _)))
  clear he hlo
  gi_wp2
  gi_loopw [4, 5, 6] (fun a b c wr => ∃ (pre : List (Int × Int)) (r hh : List It) (v' : Value), LoI s pre a b c r ∧ Qs wr qc v' room turns hh ∧ Rp hh T r ∧ v'.ownBlock = vc.ownBlock ∧ J pre wr ∧ W.heap.size ≤ wr.heap.size) (fun a b c wr => meA c wr qc)
  case atStart => exact ⟨[], s.tail, h2, v2, HLO.out, HQS2.out, HR2.out, HVV2.out, HJ2.out, HK2.out.size⟩
  case round =>
    clear HLO HQS2 HR2 HVV2 HJ2 HK2 H0
    obtain ⟨pre, r, hh, v', hlo, hqs, hr, hvv, hj, hsz2⟩ := hrel
    have HQS := hx hqs
    have HRR := hx hr
    have HVV := hx hvv
    have HSZ := hx hsz2
    clear hqs hr hvv hsz2
    rcases hlo with ⟨x, rfl, rfl, rfl, hsp⟩ | ⟨rfl, hsp, rfl⟩
    · have hlen : pre.length < s.length := by
        have h := congrArg List.length hsp
        simp at h
        omega
      have HRL := hx (show r.length ≤ 1000 by
        have h := congrArg List.length hsp
        have g := HSL.out
        simp at h
        omega)
      obtain ⟨fn, tmps, assign, body, hy, hRd⟩ := HY.out pre (pr x) wr hj hlen
      dsimp only [encA, pr] at hy
      have HSP := hx (show s.map pr = (pre ++ [pr x]) ++ r.map pr by rw [hsp]; simp)
      have HME := hx (show meA (.bool true) wr qc = r.length + 1 by rw [show meA (.bool true) wr qc = lenAt wr qc + 1 from rfl, len_at HQS.out, ← HRR.out.len])
      clear hsp hlen hj
      gi_wp2
      refine hRd.mono ?_
      rintro e W3 (⟨rfl, hJ3, hk3⟩ | ⟨rfl, hx3⟩)
      · have HQ3 := HQS.out.kpc hk3 (fun hc => by have g1 := HBS.out qc hc; have g2 := HQ1.out; omega) (fun g hg hc => by
          rw [HVV.out] at hg
          have g1 := HBS.out g hc
          have g2 := HV1.out g hg
          omega)
        have HP3 := hx (popS qc v' room turns T hh r W3 HQ3 HRR.out (by have := HRL.out; omega))
        have HJ3 := hx hJ3
        have HS3 := hx hk3.size
        clear hJ3 hk3 HQ3
        gi_wp2
        refine ⟨trivial, (callsIn_wide.2 HP3.out).mono ?_⟩
        rintro e w4 ⟨rfl, v4, h4, hqs4, hr4, hvv4, hk4⟩
        obtain ⟨ea, eb, ec, he, hlo⟩ := pop_lo s (pre ++ [pr x]) r HSP.out
        rw [he]
        have HLO := hx hlo
        have HQS4 := hx hqs4
        have HR4 := hx hr4
        have HVV4 := hx (hvv4.trans HVV.out)
        have HJ4 := hx (HJ.out _ W3 w4 HJ3.out (kept_below hk4 (fun b hb' => by
          simp only [List.mem_cons] at hb'
          rcases hb' with rfl | hb'
          · exact HQ1.out
          · rw [HVV.out] at hb'
            exact HV1.out b (by simpa using hb')) (Nat.le_trans HSZ.out HS3.out)))
        have HS4 := hx (Nat.le_trans (Nat.le_trans HSZ.out HS3.out) hk4.size)
        have HM4 := hx (show meA ec w4 qc < r.length + 1 by
          rcases hlo with ⟨y, _, _, rfl, _⟩ | ⟨rfl, _, _⟩
          · rw [show meA (.bool true) w4 qc = lenAt w4 qc + 1 from rfl, len_at hqs4, ← hr4.len, List.length_tail]
            cases r with
            | nil =>
              exfalso
              simp [popE] at he
            | cons z r => simp
          · show 0 < _
            omega)
        clear he hlo hqs4 hr4 hvv4 hk4 HP3
        gi_wp2
        go_roundw
        case rel => exact ⟨pre ++ [pr x], r.tail, h4, v4, HLO.out, HQS4.out, HR4.out, HVV4.out, HJ4.out, HS4.out⟩
        case measure => rw [HME.out]; exact HM4.out
      · gi_wp2
        refine bodyPost_ret (results_none rfl _ _ _) rfl ?_
        exact ⟨⟨_, rfl⟩, .inr ⟨_, ⟨r.map pr, HSP.out.symm⟩, hx3⟩⟩
    · gi_wp2
      go_end0
      exact ⟨⟨_, rfl⟩, .inl ⟨pre, hsp.symm, hj⟩⟩
end Go.Proofs.Ythpdoekeooedfaa
