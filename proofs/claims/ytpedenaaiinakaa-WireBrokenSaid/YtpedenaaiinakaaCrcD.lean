import Derived.Test.YtpedenaaiinakaaCrcC
import Derived.Deep.RegionHeld3
import Derived.Deep.DeepMust
namespace Go.Proofs.Ytpedenaaiinakaa
open Go.RowKit
theorem open_short (p : Nat) (a : Option Addr) (n c : Nat) (l : List UInt8) (w : World) (hl : Bts w a n c l) (h4 : l.length < 4) :
    Calls Try.prog 32 #[.pointer (some ⟨p, 0, none⟩), .slice a n c] w fun e w' => e = .returned (.tuple #[.slice none 0 0, .int .i64 70]) ∧ w = w' := by
  obtain rfl := hl.hlen
  have h44 : (l.length : Int) - 4 < 0 := by omega
  go_enter Try.func32, Try.ntmps32
  go_wp2
  go_ret2
  exact ⟨rfl, rfl⟩
theorem get_x (a : Option Addr) (n c : Nat) (l : List UInt8) (x : Nat) (w : World) (hl : Bts w a n c l) (h8 : l.length ≤ 8) (hx : beg l = x) :
    Calls Try.prog 31 #[.slice a n c] w fun e w' => e = .returned (.int .u64 (x : Nat)) ∧ w = w' := by
  subst hx; exact get_any a n c l w hl h8
theorem get4 (w : World) (s0 s1 s2 s3 : UInt8) : Bts (w.alloc (.cells #[.int .u8 s3.toNat, .int .u8 s2.toNat, .int .u8 s1.toNat, .int .u8 s0.toNat] 5)) (some ⟨w.heap.size, 0, none⟩) 4 4 [s3, s2, s1, s0] :=
  Bts.ofBlk (l := [s3, s2, s1, s0]) (cap := 4) (Blk.new' _ _ _) (by simp) (by unfold maxLen; omega) (fun i hi => by
    match i, hi with
    | 0, _ => rfl
    | 1, _ => rfl
    | 2, _ => rfl
    | 3, _ => rfl)
set_option maxRecDepth 100000 in
set_option maxHeartbeats 800000 in
theorem open_bad (p : Nat) (a : Option Addr) (m c : Nat) (l : List UInt8) (s0 s1 s2 s3 : UInt8) (w : World) (hl : Bts w a (m + 4) c (l ++ [s0, s1, s2, s3])) (hm : l.length = m) (hmb : m ≤ 1000000) (hp : Blk w p (tabk 256) 60)
   (hne : ¬ beg [s3, s2, s1, s0] = mor 0 l) :
    Calls Try.prog 32 #[.pointer (some ⟨p, 0, none⟩), .slice a (m + 4 : Nat) c] w fun e w' => e = .returned (.tuple #[.slice none 0 0, .int .i64 20]) ∧ Kept [] w w' := by
  have hle := hl.hle
  have htop := hl.htop
  unfold maxLen at htop
  obtain ⟨b, off, rfl⟩ := hl.some (by simp)
  have c0 : w.cell? ⟨b, off + m, none⟩ = some (.int .u8 s0.toNat) := by have := hl.at m (by simp; omega); simpa [← hm, List.getElem_append] using this
  have c1 : w.cell? ⟨b, off + m + 1, none⟩ = some (.int .u8 s1.toNat) := by have := hl.at (m + 1) (by simp; omega); simpa [← hm, List.getElem_append, ← Nat.add_assoc] using this
  have c2 : w.cell? ⟨b, off + m + 2, none⟩ = some (.int .u8 s2.toNat) := by have := hl.at (m + 2) (by simp; omega); simpa [← hm, List.getElem_append, ← Nat.add_assoc] using this
  have c3 : w.cell? ⟨b, off + m + 3, none⟩ = some (.int .u8 s3.toNat) := by have := hl.at (m + 3) (by simp; omega); simpa [← hm, List.getElem_append, ← Nat.add_assoc] using this
  have hs := hl.take m (by simp; omega)
  rw [List.take_left' hm] at hs
  have hx : beg [s3, s2, s1, s0] < 4294967296 := by have := beg_lt [s3, s2, s1, s0]; simp at this; omega
  have ht : (((beg [s3, s2, s1, s0] : Nat) : Int) != ((mor 0 l : Nat) : Int)) = true := by rw [bne_iff_ne]; omega
  clear hne
  generalize hbe : beg [s3, s2, s1, s0] = x at *
  have hbe' := Lib.hid hbe
  clear hbe
  have hwx : IntKind.u32.wrap (x : Int) = x := by rw [IntKind.wrap_u32']; omega
  have hm' := Lib.hid hm
  clear hm
  have hi0 : (0 : Int) ≤ (m : Int) := by omega
  have hi1 : (m : Int) ≤ (c : Int) := by omega
  go_enter Try.func32, Try.ntmps32
  go_wp2
  go_region_held3 (fun w' => w'.cell? ⟨b, off + m, none⟩ = some (.int .u8 s0.toNat) ∧ w'.cell? ⟨b, off + m + 1, none⟩ = some (.int .u8 s1.toNat) ∧ w'.cell? ⟨b, off + m + 2, none⟩ = some (.int .u8 s2.toNat) ∧ w'.cell? ⟨b, off + m + 3, none⟩ = some (.int .u8 s3.toNat)) (go_keep)
    (first | (go_at_call 31; refine (get_x _ _ _ [s3, s2, s1, s0] x _ ?_ (by simp) hbe'.out).mono ?_; (first | exact get4 _ _ _ _ _ | exact (get4 _ _ _ _ _).drew); rintro e w' ⟨rfl, rfl⟩) | (go_at_call 37; refine (sum_any p _ m c l _ ?_ ?_).mono ?_; (exact hs.kept (by repeat (first | exact Kept.refl _ _ | apply Kept.drew | apply Kept.alloc))); (first | exact hp | exact hp.alloc _); rintro e w' ⟨rfl, rfl⟩))
  all_goals
    go_wp2
    go_ret2
    exact ⟨rfl, by repeat (first | exact Kept.refl _ _ | apply Kept.drew | apply Kept.alloc)⟩
set_option maxRecDepth 100000 in
set_option maxHeartbeats 800000 in
theorem open_good (p : Nat) (a : Option Addr) (m c : Nat) (l : List UInt8) (s0 s1 s2 s3 : UInt8) (w : World) (hl : Bts w a (m + 4) c (l ++ [s0, s1, s2, s3])) (hm : l.length = m) (hmb : m ≤ 1000000) (hp : Blk w p (tabk 256) 60)
   (hne : beg [s3, s2, s1, s0] = mor 0 l) :
    Calls Try.prog 32 #[.pointer (some ⟨p, 0, none⟩), .slice a (m + 4 : Nat) c] w fun e w' => ∃ v, e = .returned (.tuple #[v, .int .i64 0]) ∧ w'.ownsRow w.heap.size 5 1 v m (l.map bv) ∧ Kept [] w w' := by
  have hle := hl.hle
  have htop := hl.htop
  unfold maxLen at htop
  obtain ⟨b, off, rfl⟩ := hl.some (by simp)
  have c0 : w.cell? ⟨b, off + m, none⟩ = some (.int .u8 s0.toNat) := by have := hl.at m (by simp; omega); simpa [← hm, List.getElem_append] using this
  have c1 : w.cell? ⟨b, off + m + 1, none⟩ = some (.int .u8 s1.toNat) := by have := hl.at (m + 1) (by simp; omega); simpa [← hm, List.getElem_append, ← Nat.add_assoc] using this
  have c2 : w.cell? ⟨b, off + m + 2, none⟩ = some (.int .u8 s2.toNat) := by have := hl.at (m + 2) (by simp; omega); simpa [← hm, List.getElem_append, ← Nat.add_assoc] using this
  have c3 : w.cell? ⟨b, off + m + 3, none⟩ = some (.int .u8 s3.toNat) := by have := hl.at (m + 3) (by simp; omega); simpa [← hm, List.getElem_append, ← Nat.add_assoc] using this
  have hs := hl.take m (by simp; omega)
  rw [List.take_left' hm] at hs
  have hx := mor_lt 0 l
  have hbe' := Lib.hid hne
  clear hne
  have hwx : IntKind.u32.wrap ((mor 0 l : Nat) : Int) = (mor 0 l : Nat) := by rw [IntKind.wrap_u32']; omega
  have hm' := Lib.hid hm
  clear hm
  have hi0 : (0 : Int) ≤ (m : Int) := by omega
  have hi1 : (m : Int) ≤ (c : Int) := by omega
  go_enter Try.func32, Try.ntmps32
  go_wp2
  go_region_held3 (fun w' => w'.cell? ⟨b, off + m, none⟩ = some (.int .u8 s0.toNat) ∧ w'.cell? ⟨b, off + m + 1, none⟩ = some (.int .u8 s1.toNat) ∧ w'.cell? ⟨b, off + m + 2, none⟩ = some (.int .u8 s2.toNat) ∧ w'.cell? ⟨b, off + m + 3, none⟩ = some (.int .u8 s3.toNat)) (go_keep)
    (first | (go_at_call 31; refine (get_x _ _ _ [s3, s2, s1, s0] (mor 0 l) _ ?_ (by simp) hbe'.out).mono ?_; (first | exact get4 _ _ _ _ _ | exact (get4 _ _ _ _ _).drew); rintro e w' ⟨rfl, rfl⟩) | (go_at_call 37; refine (sum_any p _ m c l _ ?_ ?_).mono ?_; (exact hs.kept (by repeat (first | exact Kept.refl _ _ | apply Kept.drew | apply Kept.alloc))); (first | exact hp | exact hp.alloc _); rintro e w' ⟨rfl, rfl⟩))
  all_goals
    go_wp2_with (at_builtin; refine wpList_app8 rfl (.tmp 37) (.tmp 40) rfl w.heap.size _ 0 [] rfl ?_ _ m c l rfl ?_ ?_ ?_ ?_)
    · exact own_empty (w := w.alloc _) (by simp) (by simp)
    · exact hs.kept (by repeat (first | exact Kept.refl _ _ | apply Kept.drew | apply Kept.alloc))
    · omega
    · simp; omega
    · intro v' w2 hown hgr
      go_wp2
      go_ret2
      refine ⟨v', rfl, by simpa using hown, Kept.grown ?_ hgr ?_⟩
      · repeat (first | exact Kept.refl _ _ | apply Kept.drew | apply Kept.alloc)
      · rintro k hk
        right
        simp [Value.ownBlock] at hk
        omega
end Go.Proofs.Ytpedenaaiinakaa
