import Derived.Test.YtpedenaaiinakaaCrcA
import Derived.Test.YtpedenaaiinakaaCrcP2
import Derived.Test.YtpedenaaiinakaaRow
namespace Go.Proofs.Ytpedenaaiinakaa
open Go.RowKit
set_option maxHeartbeats 400000 in
theorem rone_any (r : Nat) (w : World) (hr : r < 4294967296) :
    Calls Try.prog 44 #[.int .u32 r] w fun e w' => e = .returned (.int .u32 (one r : Nat)) ∧ w = w' := by
  by_cases ho : r % 2 = 1
  · have h2 := one_odd hr ho
    have h1 : (r : Int) % 2 = 1 := by omega
    go_enter Try.func44, Try.ntmps44
    go_wp2
    go_ret
    exact ⟨rfl, rfl⟩
  · have h2 := one_even ho
    have h1 : (r : Int) % 2 = 0 := by omega
    go_enter Try.func44, Try.ntmps44
    go_wp2
    go_ret
    exact ⟨rfl, rfl⟩
set_option maxHeartbeats 400000 in
theorem rstep_any (r b : Nat) (w : World) (hr : r < 4294967296) (hb : b < 256) :
    Calls Try.prog 42 #[.int .u32 r, .int .u8 b] w fun e w' => e = .returned (.int .u32 (stp r b : Nat)) ∧ w = w' := by
  have hx := u32_xor_nat r b hr (by omega)
  go_enter Try.func42, Try.ntmps42
  go_wp2
  go_loop [0, 5] (fun v i => ∃ k : Nat, k ≤ 8 ∧ i = .int .i64 k ∧ v = .int .u32 (ones k (r ^^^ b) : Nat)) (fun _ i => 8 - (intOf i).toNat)
  case atStart => exact ⟨0, by omega, rfl, rfl⟩
  case round =>
    obtain ⟨k, hk, rfl, rfl⟩ := hrel
    clear hx
    have hlt := ones_lt (xor_lt hr (show b < 4294967296 by omega)) k
    by_cases hk8 : k < 8
    · go_wp2_with (go_at_call 44; refine (rone_any _ _ hlt).mono ?_; rintro e w' ⟨rfl, rfl⟩)
      go_round
      case rel => exact ⟨k + 1, by omega, by go_num, rfl⟩
      case measure => simp [intOf]; omega
    · obtain rfl : k = 8 := by omega
      go_wp2
      go_ret
      exact ⟨rfl, rfl⟩
set_option maxHeartbeats 400000 in
theorem rmore_any (s : Nat) (a : Option Addr) (len cap : Nat) (l : List UInt8) (w : World) (hs : s < 4294967296) (hl : Bts w a len cap l) :
    Calls Try.prog 36 #[.int .u32 s, .slice a len cap] w fun e w' => e = .returned (.int .u32 (mor s l : Nat)) ∧ w = w' := by
  have hn := not_u32 hs
  have hle := hl.hle
  have htop := hl.htop
  obtain rfl := hl.hlen
  unfold maxLen at htop
  go_enter Try.func36, Try.ntmps36
  go_wp2
  go_loop [5, 6] (fun v i => ∃ k : Nat, k ≤ l.length ∧ i = .int .i64 k ∧ v = .int .u32 (rst (4294967295 - s) (l.take k) : Nat)) (fun _ i => l.length - (intOf i).toNat)
  case atStart => exact ⟨0, by omega, rfl, by simp [rst]⟩
  case round =>
    obtain ⟨k, hk, rfl, rfl⟩ := hrel
    clear hn
    have hlt := rst_lt (show 4294967295 - s < 4294967296 by omega) (l.take k)
    by_cases hk8 : k < l.length
    · obtain ⟨b, off, rfl⟩ := hl.some (by omega)
      have hc := hl.at k hk8
      have hb := l[k].toNat_lt
      go_wp2_with (go_at_call 42; refine (rstep_any _ _ _ hlt hb).mono ?_; rintro e w' ⟨rfl, rfl⟩)
      go_round
      case rel => exact ⟨k + 1, by omega, by go_num, by rw [rst_snoc _ _ _ hk8]⟩
      case measure => simp [intOf]; omega
    · obtain rfl : k = l.length := by omega
      rw [List.take_length] at hlt
      have hn := not_u32 hlt
      go_wp2
      go_ret
      exact ⟨rfl, rfl⟩
set_option maxRecDepth 100000 in
set_option maxHeartbeats 400000 in
theorem more_any (p : Nat) (s : Nat) (a : Option Addr) (len cap : Nat) (l : List UInt8) (w : World) (hs : s < 4294967296) (hl : Bts w a len cap l) (hp : Blk w p (tabk 256) 60) :
    Calls Try.prog 43 #[.pointer (some ⟨p, 0, none⟩), .int .u32 s, .slice a len cap] w fun e w' => e = .returned (.int .u32 (mor s l : Nat)) ∧ w = w' := by
  have hn := not_u32 hs
  have hle := hl.hle
  have htop := hl.htop
  obtain rfl := hl.hlen
  unfold maxLen at htop
  go_enter Try.func43, Try.ntmps43
  go_wp2
  go_loop [7, 14] (fun v i => ∃ k : Nat, k ≤ l.length ∧ i = .int .i64 k ∧ v = .int .u32 (rst (4294967295 - s) (l.take k) : Nat)) (fun _ i => l.length - (intOf i).toNat)
  case atStart => exact ⟨0, by omega, rfl, by simp [rst]⟩
  case round =>
    obtain ⟨k, hk, rfl, rfl⟩ := hrel
    clear hn
    have hlt := rst_lt (show 4294967295 - s < 4294967296 by omega) (l.take k)
    by_cases hk8 : k < l.length
    · obtain ⟨b, off, rfl⟩ := hl.some (by omega)
      have hc := hl.at k hk8
      have hb := l[k].toNat_lt
      have hsn := Lib.hid (rst_snoc (4294967295 - s) l k hk8)
      generalize rst (4294967295 - s) (l.take k) = r at *
      have hx8 : r % 256 ^^^ l[k].toNat < 256 := Nat.xor_lt_two_pow (n := 8) (by omega) hb
      have hcell := hp.cell (tabk_get 256 _ hx8)
      rw [if_pos hx8] at hcell
      have hw : IntKind.u8.wrap (r : Int) = (r : Int) % 256 := IntKind.wrap_u8' _
      have hx : bits .xor .u8 ((r : Int) % 256) (l[k].toNat : Int) = ((r % 256 ^^^ l[k].toNat : Nat) : Int) := u8_xor_nat (r % 256) l[k].toNat (by omega) hb
      have hy : bits .xor .u32 ((stp 0 (r % 256 ^^^ l[k].toNat) : Nat) : Int) ((r : Int) / 256) = ((stp r l[k].toNat : Nat) : Int) := by
        rw [stp_tab r l[k].toNat]; exact u32_xor_nat _ (r / 256) (stp_lt (by omega) hx8) (by omega)
      generalize r % 256 ^^^ l[k].toNat = m at *
      go_wp2
      go_round
      case rel => exact ⟨k + 1, by omega, by go_num, by rw [hsn.out]⟩
      case measure => simp [intOf]; omega
    · obtain rfl : k = l.length := by omega
      rw [List.take_length] at hlt
      have hn := not_u32 hlt
      go_wp2
      go_ret
      exact ⟨rfl, rfl⟩
set_option maxHeartbeats 400000 in
theorem sum_any (p : Nat) (a : Option Addr) (len cap : Nat) (l : List UInt8) (w : World) (hl : Bts w a len cap l) (hp : Blk w p (tabk 256) 60) :
    Calls Try.prog 37 #[.pointer (some ⟨p, 0, none⟩), .slice a len cap] w fun e w' => e = .returned (.int .u32 (mor 0 l : Nat)) ∧ w = w' := by
  go_enter Try.func37, Try.ntmps37
  go_wp2_with (go_at_call 43; refine (more_any p 0 a len cap l _ (by omega) hl hp).mono ?_; rintro e w' ⟨rfl, rfl⟩)
  go_ret
  exact ⟨rfl, rfl⟩
end Go.Proofs.Ytpedenaaiinakaa
