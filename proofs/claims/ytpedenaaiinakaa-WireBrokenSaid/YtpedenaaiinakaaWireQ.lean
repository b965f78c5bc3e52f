import Derived.Test.YtpedenaaiinakaaWireP
import Derived.Deep.DeepCutAuto
namespace Go.Proofs.Ytpedenaaiinakaa
open Go Go.RowKit
theorem lob_eq (b : UInt8) (n : Nat) : b = lob n ↔ b.toNat = n % 256 := by
  rw [← UInt8.toNat_inj, lob_nat]
theorem le4_beg (s0 s1 s2 s3 : UInt8) (m : Nat) (hm : m < 4294967296) : [s0, s1, s2, s3] = le4 m ↔ beg [s3, s2, s1, s0] = m := by
  have h0 := s0.toNat_lt
  have h1 := s1.toNat_lt
  have h2 := s2.toNat_lt
  have h3 := s3.toNat_lt
  simp only [le4, List.cons.injEq, and_true, lob_eq, beg, List.foldl_cons, List.foldl_nil]
  omega
theorem split4 (l : List UInt8) (h : 4 ≤ l.length) : ∃ (o : List UInt8) (s0 s1 s2 s3 : UInt8), l = o ++ [s0, s1, s2, s3] := by
  refine ⟨l.take (l.length - 4), ?_⟩
  have hd : (l.drop (l.length - 4)).length = 4 := by simp; omega
  match hx : l.drop (l.length - 4), hd with
  | [a, b, c, d], _ => exact ⟨a, b, c, d, by rw [← hx, List.take_append_drop]⟩
set_option maxHeartbeats 400000 in
theorem rget_any (a : Option Addr) (n c : Nat) (l : List UInt8) (w : World) (hl : Bts w a n c l) (h8 : l.length ≤ 8) :
    Calls Try.prog 35 #[.slice a n c] w fun e w' => e = .returned (.int .u64 (beg l : Nat)) ∧ w = w' := by
  have hle := hl.hle
  have htop := hl.htop
  obtain rfl := hl.hlen
  unfold maxLen at htop
  go_enter Try.func35, Try.ntmps35
  go_wp2
  go_loop [3, 4] (fun v i => ∃ k : Nat, k ≤ l.length ∧ i = .int .i64 k ∧ v = .int .u64 ((beg (l.take k) : Nat) : Int)) (fun _ i => l.length - (intOf i).toNat)
  case atStart => exact ⟨0, Nat.zero_le _, rfl, rfl⟩
  case round =>
    obtain ⟨k, hk, rfl, rfl⟩ := hrel
    by_cases hlt : k < l.length
    · obtain ⟨b, off, rfl⟩ := hl.some (by omega)
      have hc := hl.at k hlt
      have hb := l[k].toNat_lt
      have hs := Lib.hid (beg_snoc l k hlt)
      have hx : beg (l.take k) < 256 ^ 7 := Nat.lt_of_lt_of_le (beg_lt _) (Nat.pow_le_pow_right (by omega) (by simp; omega))
      rw [show 256 ^ 7 = 72057594037927936 from rfl] at hx
      generalize beg (l.take k) = x at *
      have d1 : decide ((k : Int) < (l.length : Int)) = true := by simp; omega
      have d2 : (k : Int) < 8 := by omega
      go_wp2
      go_round
      case rel => exact ⟨k + 1, by omega, by go_num, by rw [hs.out]; simp⟩
      case measure => simp [intOf] <;> omega
    · obtain rfl : k = l.length := by omega
      have d1 : decide ((l.length : Int) < (l.length : Int)) = false := by simp
      go_wp2
      go_ret
      exact ⟨by simp, rfl⟩
theorem rgetX (a : Option Addr) (n c i k : Nat) (o : List UInt8) (x : Nat) (w : World) (hl : Bts w a n c ((o.drop i).take k)) (h8 : k ≤ 8) (hx : Hid (fld o i k = x)) :
    Calls Try.prog 35 #[.slice a n c] w fun e w' => e = .returned (.int .u64 (x : Nat)) ∧ w = w' := by
  rw [← hx.out]
  exact rget_any a n c _ w hl (by simp; omega)
def decE (s : Nat) (l : List UInt8) : Int := if 1400 < l.length then 2 else if l.length < 33 then 70 else if sealed (l.take (l.length - 4)) = l then opE s (l.take (l.length - 4)) else 20
def decD (s : Nat) (l : List UInt8) : Dg := if decE s l = 0 then rdD (l.take (l.length - 4)) else dg0
theorem sealed_iff (o : List UInt8) (s0 s1 s2 s3 : UInt8) : sealed o = o ++ [s0, s1, s2, s3] ↔ beg [s3, s2, s1, s0] = mor 0 o := by
  unfold sealed
  rw [List.append_right_inj, eq_comm]
  exact le4_beg s0 s1 s2 s3 _ (mor_lt 0 o)
theorem decode_any (t s : Nat) (a : Option Addr) (n c : Nat) (l : List UInt8) (w : World) (hl : Bts w a n c l) (ht : Blk w t (tabk 256) 60) (hs : s < 4294967296) :
    Calls Try.prog 19 #[.pointer (some ⟨t, 0, none⟩), .int .u32 s, .slice a n c] w fun e w' => ∃ p c', e = .returned (.tuple #[.agg (dgl (decD s l) p c').toArray, .int .i64 (decE s l)]) ∧ Bts w' p (decD s l).data.length c' (decD s l).data ∧ Kept [] w w' := by
  have hn := hl.hlen
  by_cases h1 : 1400 < n
  · have hE : decE s l = 2 := by unfold decE; rw [if_pos (by omega)]
    have hD : decD s l = dg0 := by unfold decD; rw [hE]; rfl
    rw [hE, hD]
    refine (decode_long t s a n c w h1).mono ?_
    rintro e w' ⟨rfl, hk⟩
    exact ⟨none, 0, rfl, bts_none _, hk⟩
  · by_cases h2 : n < 33
    · have hE : decE s l = 70 := by unfold decE; rw [if_neg (by omega), if_pos (by omega)]
      have hD : decD s l = dg0 := by unfold decD; rw [hE]; rfl
      rw [hE, hD]
      refine (decode_short t s a n c w h2).mono ?_
      rintro e w' ⟨rfl, hk⟩
      exact ⟨none, 0, rfl, bts_none _, hk⟩
    · obtain ⟨o, s0, s1, s2, s3, rfl⟩ := split4 l (by omega)
      have hlen : (o ++ [s0, s1, s2, s3]).length = o.length + 4 := by simp
      have ht4 : (o ++ [s0, s1, s2, s3]).take ((o ++ [s0, s1, s2, s3]).length - 4) = o := by rw [hlen, Nat.add_sub_cancel, List.take_left' rfl]
      by_cases hg : beg [s3, s2, s1, s0] = mor 0 o
      · have hE : decE s (o ++ [s0, s1, s2, s3]) = opE s o := by unfold decE; rw [if_neg (by omega), if_neg (by omega), ht4, if_pos ((sealed_iff _ _ _ _ _).2 hg)]
        have hD : decD s (o ++ [s0, s1, s2, s3]) = if opE s o = 0 then rdD o else dg0 := by unfold decD; rw [hE, ht4]
        rw [hE, hD]
        refine (decode_body t s a n o.length c o s0 s1 s2 s3 w hl rfl (by omega) (by omega) (by omega) ht hs hg).mono ?_
        rintro e w' ⟨d, p, c', rfl, rfl, hb, hk⟩
        exact ⟨p, c', rfl, hb, hk⟩
      · have hE : decE s (o ++ [s0, s1, s2, s3]) = 20 := by unfold decE; rw [if_neg (by omega), if_neg (by omega), ht4, if_neg (fun h => hg ((sealed_iff _ _ _ _ _).1 h))]
        have hD : decD s (o ++ [s0, s1, s2, s3]) = dg0 := by unfold decD; rw [hE]; rfl
        rw [hE, hD]
        refine (decode_sum t s a n o.length c o s0 s1 s2 s3 w hl rfl (by omega) (by omega) (by omega) ht hg).mono ?_
        rintro e w' ⟨rfl, hk⟩
        exact ⟨none, 0, rfl, bts_none _, hk⟩
end Go.Proofs.Ytpedenaaiinakaa
