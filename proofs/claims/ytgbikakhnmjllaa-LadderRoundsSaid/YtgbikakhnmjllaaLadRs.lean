/- The iterator over the rounds. -/
import Derived.Test.YtgbikakhnmjllaaLadRo
import Derived.Test.YtgbikakhnmjllaaSeqG
namespace Go.Proofs.Ytgbikakhnmjllaa
open Go Go.RowKit Go.Shelf
attribute [local go_sem] Oper.semAt_some
/-- All cells but those of bs stay. -/
structure KpC (bs : List Nat) (A C : World) : Prop where
  size : A.heap.size ≤ C.heap.size
  same : ∀ b o, A.heap[b]? = some o → o.isCells = true → b ∉ bs → C.heap[b]? = A.heap[b]?
theorem kpc_t {bs : List Nat} {A B C : World} (h : KpC bs A B) (k : KpC bs B C) : KpC bs A C :=
  ⟨Nat.le_trans h.size k.size, fun b o ho hc hn => by
    have h1 := h.same b o ho hc hn
    rw [k.same b o (h1.trans ho) hc hn, h1]⟩
theorem kpc_b {bs : List Nat} (W : World) (l : Nat) (o o' : Obj) (hl : W.heap[l]? = some o) (hc : o.isCells = false) : KpC bs W (W.putObj l o') :=
  ⟨by simp [World.putObj], fun b p hp hpc _ => by
    have hne : b ≠ l := by
      rintro rfl
      rw [hl] at hp
      simp only [Option.some.injEq] at hp
      rw [hp, hpc] at hc
      cases hc
    exact World.putObj_heap_other hne⟩
theorem Blk.kpc {bs : List Nat} {A C : World} {b : Nat} {xs : List Value} {T : TypeId} (h : Blk A b xs T) (hk : KpC bs A C) (hn : b ∉ bs) : Blk C b xs T := by
  unfold Blk at *
  rw [hk.same b _ h rfl hn]
  exact h
theorem kept_below {B : Nat} {bs : List Nat} {A C : World} (h : Kept bs A C) (hb : ∀ b, b ∈ bs → B ≤ b) (hA : B ≤ A.heap.size) : Below B A C :=
  ⟨h.os, h.tape, h.output, h.size, fun k hk => h.block k (by omega) (fun hc => by have := hb k hc; omega)⟩
structure Rx where
  r : Int
  a : Option Addr
  k : Nat
  c : Nat
abbrev encR (x : Rx) : Array Value := #[.int .i64 x.r, .slice x.a x.k x.c]
/-- What is yielded. -/
def GR (N : Nat) (pre : List Rx) (x : Rx) (A : World) : Prop :=
  x.r = (pre.length : Int) ∧ x.k = (rnd N pre.length).length ∧ x.k ≤ x.c ∧ LsY 53 A x.a ((rnd N pre.length).map prN)
theorem evN_pos (N : Nat) : evN N = 0 ∨ 2 ≤ evN N := by unfold evN; omega
theorem evN_le (N : Nat) (h : N ≤ 32) : evN N ≤ 33 := by unfold evN; omega
set_option maxRecDepth 100000 in
set_option maxHeartbeats 4000000 in
theorem rounds_stops (n b3 b4 N : Nat) (bs : List Nat) (w : World) (h3 : Blk w b3 [.int .i64 N] 3) (h4 : Blk w b4 [.int .i64 (evN N)] 3) (hN : N ≤ 32) (hn3 : b3 ∉ bs) (hn4 : b4 ∉ bs) (hn : 1 ≤ n) :
    SeqG Fence.wide n Try.prog 24 #[.pointer (some ⟨b4, 0, none⟩), .pointer (some ⟨b3, 0, none⟩)] encR (GR N) (KpC bs) (fun xs => xs.length = evN N - 1) (fun _ => True) (evN N - 1) w := fun l J Jx W hW hJ hJx hY h0 => by
  have hkW := Kept.ofBelow hW
  have B3 := hx (hkW.blk h3 (by simp))
  have B4 := hx (hkW.blk h4 (by simp))
  have HJ := hx hJ
  have HY := hx hY
  have H0 := hx h0
  have HN3 := hx (And.intro hn3 hn4)
  have hE := evN_le N hN
  have HEP := hx (evN_pos N)
  have HRN := hx (fun r w (hr : r < evN N - 1) => round_any N r w hN hr)
  clear h3 h4 hkW hJ hY h0 hJx hn3 hn4 hW
  generalize evN N = M at *
  have c3 := B3.out.cell (i := 0) rfl
  have c4 := B4.out.cell (i := 0) rfl
  refine callsIn_of_wp Try.func24 rfl trivial ?_ rfl
  simp only [Try.ntmps24, List.size_toArray, List.length_cons, List.length_nil, Nat.reduceAdd, Nat.reduceSub, Array.replicate_succ, Array.replicate_zero, List.push_toArray, List.append_toArray, List.nil_append, List.cons_append]
  obtain ⟨Kr, hK2⟩ : ∃ Kr : Nat, Kr = M - 1 := ⟨_, rfl⟩
  rw [← hK2] at HY HRN ⊢
  have HK2 := hx hK2
  by_cases hM : M = 0
  · subst hM
    gi_wp2
    gi_loopw [8] (fun cv wr => cv = .int .i64 0 ∧ wr = W) (fun _ _ => 0)
    case atStart => exact ⟨rfl, rfl⟩
    case round =>
      obtain ⟨rfl, rfl⟩ := hrel
      gi_wp2
      go_end0
      exact ⟨⟨_, rfl⟩, .inl ⟨[], HK2.out.symm, H0.out⟩⟩
  · have hM1 : 2 ≤ (M : Int) := by have h := HEP.out; omega
    have hKM : (Kr : Int) = (M : Int) - 1 := by omega
    have hKb : (Kr : Int) ≤ 32 := by omega
    clear hK2
    gi_wp2
    gi_loopw [8] (fun cv wr => ∃ (pre : List Rx), cv = .int .i64 pre.length ∧ pre.length ≤ Kr ∧ J pre wr ∧ W.heap.size ≤ wr.heap.size ∧ Blk wr b3 [.int .i64 N] 3 ∧ Blk wr b4 [.int .i64 M] 3) (fun cv _ => Kr - (intOf cv).toNat)
    case atStart => exact ⟨[], rfl, by simp, H0.out, Nat.le_refl _, B3.out, B4.out⟩
    case round =>
      clear H0 B3 B4 c3 c4
      obtain ⟨pre, rfl, hle, hj, hsz, hb3, hb4⟩ := hrel
      have HJ1 := hx hj
      have HSZ := hx hsz
      have B3 := hx hb3
      have B4 := hx hb4
      have c3 := hb3.cell (i := 0) rfl
      have c4 := hb4.cell (i := 0) rfl
      clear hj hsz hb3 hb4
      by_cases hlt : pre.length < Kr
      · have hlti : (pre.length : Int) < (Kr : Int) := by omega
        have HRR := hx (HRN.out pre.length wr hlt)
        gi_wp2
        refine ⟨trivial, (callsIn_wide.2 HRR.out).mono ?_⟩
        rintro e w2 ⟨a, k, c, rfl, hk, hkc, hls, hk2⟩
        have HJ2 := hx (HJ.out pre wr w2 HJ1.out (kept_below hk2 (by simp) HSZ.out))
        have B32 := hx (hk2.blk B3.out (by simp))
        have B42 := hx (hk2.blk B4.out (by simp))
        have HSZ2 := hx (Nat.le_trans HSZ.out hk2.size)
        obtain ⟨fn, tmps, assign, body, hy, hRd⟩ := HY.out pre ⟨pre.length, a, k, c⟩ w2 HJ2.out hlt ⟨rfl, hk, hkc, hls⟩
        clear HRR hk hkc hls hk2 B3 B4 HJ1 HSZ c3 c4
        dsimp only [encR] at hy
        gi_wp2
        refine hRd.mono ?_
        rintro e W3 (⟨rfl, hJ3, hk3⟩ | ⟨rfl, hx3⟩)
        · have B33 := hx (B32.out.kpc hk3 HN3.out.1)
          have B43 := hx (B42.out.kpc hk3 HN3.out.2)
          have HSZ3 := hx (Nat.le_trans HSZ2.out hk3.size)
          have HJ3 := hx hJ3
          clear hJ3 hk3
          have hln : (((pre ++ [(⟨pre.length, a, k, c⟩ : Rx)]).length : Nat) : Int) = (pre.length : Int) + 1 := by simp
          have hl2 : (pre ++ [(⟨pre.length, a, k, c⟩ : Rx)]).length ≤ Kr := by simp; omega
          have HLN := hx (And.intro hln hl2)
          clear hln hl2
          gi_wp2
          go_roundw
          case rel => exact ⟨_, by rw [HLN.out.1], HLN.out.2, HJ3.out, HSZ3.out, B33.out, B43.out⟩
          case measure => simp [intOf] <;> omega
        · gi_wp2
          refine bodyPost_ret (results_none rfl _ _ _) rfl ?_
          exact ⟨⟨_, rfl⟩, .inr ⟨_, trivial, hx3⟩⟩
      · have hlti : ¬ (pre.length : Int) < (Kr : Int) := by omega
        gi_wp2
        go_end0
        exact ⟨⟨_, rfl⟩, .inl ⟨pre, by have h := HK2.out; omega, HJ1.out⟩⟩
end Go.Proofs.Ytgbikakhnmjllaa
