import Derived.Test.YtpedenaaiinakaaProg
import Derived.Test.YtpedenaaiinakaaRow
import Derived.Test.YtpedenaaiinakaaApp
import Derived.Handy
import Derived.LoopTactic
import Derived.Outline
import Derived.Lib.Hide
import Derived.Deep.RegionWith
import Derived.BigQuiet
namespace Go.Proofs.Ytpedenaaiinakaa
open Go.RowKit
theorem take_succ_eq {l m : List UInt8} {k : Nat} (h : k < l.length) (h2 : k < m.length) (ht : l.take k = m.take k) (he : l[k] = m[k]) : l.take (k + 1) = m.take (k + 1) := by
  rw [List.take_succ_eq_append_getElem h, List.take_succ_eq_append_getElem h2, ht, he]
theorem ne_of_get {l m : List UInt8} {k : Nat} (h : k < l.length) (h2 : k < m.length) (he : ¬ l[k] = m[k]) : ¬ l = m := by
  rintro rfl; exact he rfl
set_option maxHeartbeats 400000 in
theorem same_any (a b : Option Addr) (n m c d : Nat) (l r : List UInt8) (w : World) (hl : Bts w a n c l) (hr : Bts w b m d r) :
    Calls Try.prog 14 #[.slice a n c, .slice b m d] w fun e w' => e = .returned (.bool (decide (l = r))) ∧ ∃ k, w' = w.drewN k := by
  have hle := hl.hle
  have htop := hl.htop
  have hre := hr.hle
  have hrop := hr.htop
  obtain rfl := hl.hlen
  obtain rfl := hr.hlen
  unfold maxLen at htop hrop
  by_cases hlen : l.length = r.length
  · have h1 : ((l.length : Int) != (r.length : Int)) = false := by simp [hlen]
    have hlr := Lib.hid hlen
    clear hlen
    go_enter Try.func14, Try.ntmps14
    go_wp2
    go_loopw [5] (fun i wr => ∃ k : Nat, k ≤ l.length ∧ i = .int .i64 k ∧ l.take k = r.take k ∧ ∃ q, wr = w.drewN q) (fun i _ => l.length - (intOf i).toNat)
    case atStart => exact ⟨0, by omega, rfl, rfl, 0, rfl⟩
    case round =>
      obtain ⟨k, hk, rfl, heq, q, rfl⟩ := hrel
      have heq' := Lib.hid heq
      clear heq
      by_cases hk8 : k < l.length
      · have hk9 : k < r.length := by have := hlr.out; omega
        obtain ⟨b1, o1, rfl⟩ := hl.some (by omega)
        obtain ⟨b2, o2, rfl⟩ := hr.some (by omega)
        have hc := hl.at k hk8
        have hc2 := hr.at k hk9
        have hi1 : (k : Int) < (l.length : Int) := by omega
        have hi2 : (k : Int) < (r.length : Int) := by omega
        by_cases hv : l[k] = r[k]
        · have hv2 : ((l[k].toNat : Int) != (r[k].toNat : Int)) = false := by rw [hv]; simp
          have hvh := Lib.hid hv
          clear hv
          go_wp2
          go_quiet (fail)
          go_wp2
          go_roundw
          case rel => exact ⟨k + 1, by omega, by go_num, take_succ_eq hk8 hk9 heq'.out hvh.out, _, rfl⟩
          case measure => simp [intOf] <;> omega
        · have hv2 : ((l[k].toNat : Int) != (r[k].toNat : Int)) = true := by
            rw [bne_iff_ne]; intro h; exact hv (UInt8.toNat_inj.1 (by omega))
          have hvh := Lib.hid hv
          clear hv
          go_wp2
          go_quiet (fail)
          go_wp2
          go_ret
          exact ⟨by rw [decide_eq_false (ne_of_get hk8 hk9 hvh.out)]; rfl, _, World.drewN_drewN _ _ _⟩
      · obtain rfl : k = l.length := by omega
        go_wp2
        go_ret
        refine ⟨?_, q, rfl⟩
        have h1 := heq'.out
        rw [List.take_length, hlr.out, List.take_length] at h1
        rw [decide_eq_true h1]; rfl
  · have h1 : ((l.length : Int) != (r.length : Int)) = true := by rw [bne_iff_ne]; omega
    have hne : decide (l = r) = false := by
      apply decide_eq_false; rintro rfl; exact hlen rfl
    have hne' := Lib.hid hne
    clear hne hlen
    go_enter Try.func14, Try.ntmps14
    go_wp2
    go_ret
    exact ⟨by rw [hne'.out]; rfl, 0, rfl⟩

/-- The lowest byte of n. -/
def lob (n : Nat) : UInt8 := UInt8.ofNat n
theorem lob_nat (n : Nat) : (lob n).toNat = n % 256 := by simp [lob]
/-- n bytes of w, the highest first. -/
def byts (w n : Nat) : List UInt8 := tab n fun i => lob (w / 256 ^ (n - 1 - i))
theorem byts_len (w n : Nat) : (byts w n).length = n := tab_len _ _
theorem made_tab (n : Nat) : (madeCells #[Value.int .u8 0] n).toList = tab n fun _ => .int .u8 0 := by
  rw [toList_madeCells_one]
  exact tab_eq (by simp) (fun i hi => by simp [hi])
/-- The cells when all from m on are laid. -/
def bcells (x n m : Nat) : List Value := tab n fun i => if m ≤ i then .int .u8 ((x / 256 ^ (n - 1 - i) % 256 : Nat) : Int) else .int .u8 0
theorem bcells_n (x n : Nat) : (madeCells #[Value.int .u8 0] n).toList = bcells x n n := by
  rw [made_tab]
  exact tab_ext fun i hi => by rw [if_neg (by omega)]
theorem bcells_0 (x n : Nat) : bcells x n 0 = (byts x n).map bv := by
  symm
  refine tab_eq (by simp [byts_len]) fun i hi => ?_
  rw [List.getElem?_map, byts, tab_get hi, if_pos (Nat.zero_le _)]
  simp [bv, lob_nat]
theorem bcells_set (x n k : Nat) (h : k + 1 ≤ n) : (bcells x n (k + 1)).set k (.int .u8 ((x / 256 ^ (n - (k + 1)) : Nat) % 256 : Int)) = bcells x n k := by
  refine tab_set (by omega) ?_ fun i hi hne => ?_
  · rw [if_pos (Nat.le_refl _), show n - 1 - k = n - (k + 1) by omega]; simp
  · by_cases h1 : k + 1 ≤ i
    · rw [if_pos h1, if_pos (by omega)]
    · rw [if_neg h1, if_neg (by omega)]
theorem bdiv (x n k : Nat) (h : k + 1 ≤ n) : x / 256 ^ (n - k) = x / 256 ^ (n - (k + 1)) / 256 := by
  rw [Nat.div_div_eq_div_mul, ← Nat.pow_succ, show (n - (k + 1)).succ = n - k by omega]
set_option maxHeartbeats 400000 in
theorem bytes_any (x n : Nat) (w : World) (hx : x < 18446744073709551616) (hn : n ≤ 65536) :
    Calls Try.prog 18 #[.int .u64 x, .int .i64 n] w fun e w' => e = .returned (.slice (some ⟨w.heap.size, 0, none⟩) n n) ∧ Blk w' w.heap.size ((byts x n).map bv) 5 ∧ Kept [] w w' := by
  have hmk := makeU8 n (by omega)
  go_enter Try.func18, Try.ntmps18
  go_wp2
  go_loopw [0, 6] (fun v i wr => ∃ m : Nat, m ≤ n ∧ i = .int .i64 ((m : Int) - 1) ∧ v = .int .u64 ((x / 256 ^ (n - m) : Nat) : Int) ∧ Blk wr w.heap.size (bcells x n m) 5 ∧ Kept [] w wr) (fun _ i _ => (intOf i + 1).toNat)
  case atStart => exact ⟨n, Nat.le_refl _, rfl, by simp, by rw [← bcells_n]; exact Blk.new' _ _ _, (Kept.refl _ _).alloc _⟩
  case round =>
    obtain ⟨m, hm, rfl, rfl, hb, hk⟩ := hrel
    clear hmk
    by_cases h0 : m = 0
    · subst h0
      go_wp2
      go_ret
      exact ⟨rfl, by rw [← bcells_0]; exact hb, hk⟩
    · obtain ⟨k, rfl⟩ : ∃ k, m = k + 1 := ⟨m - 1, by omega⟩
      have e1 : ((k + 1 : Nat) : Int) - 1 = (k : Int) := by omega
      rw [e1]
      have hy : x / 256 ^ (n - (k + 1)) < 18446744073709551616 := Nat.lt_of_le_of_lt (Nat.div_le_self _ _) hx
      have hd := Lib.hid (bdiv x n k hm)
      have hset := Lib.hid (bcells_set x n k hm)
      generalize x / 256 ^ (n - (k + 1)) = y at *
      have hcell := hb.cell (show (bcells x n (k + 1))[k]? = some (.int .u8 0) by unfold bcells; rw [tab_get (by omega), if_neg (by omega)])
      have hfree := hb.free k
      go_wp2
      go_roundw
      case rel => exact ⟨k, by omega, rfl, by rw [hd.out]; simp, by rw [← hset.out]; exact hb.set k _, hk.setCell (p := ⟨_, _, none⟩) (.inr (Nat.le_refl _)) _⟩
      case measure => simp [intOf] <;> omega
end Go.Proofs.Ytpedenaaiinakaa
