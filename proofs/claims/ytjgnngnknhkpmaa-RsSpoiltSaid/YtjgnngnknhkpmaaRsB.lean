/- Codes: New. -/
import Derived.Test.YtjgnngnknhkpmaaRsA
namespace Go.Proofs.Ytjgnngnknhkpmaa
open Go Go.RowKit
def allM (k m : Nat) : List (List Nat) := genM (k + m) k gpow
def topM (k m : Nat) : List (List Nat) := pickM (allM k m) (List.range k)
def genRows (k m : Nat) : Option (List (List Nat)) := (invM k (topM k m)).map fun inv => mulM k (allM k m) inv
theorem allM_mt (k m : Nat) : Mt (k + m) k (allM k m) := genM_mt (fun i j => gpow_lt i j)
theorem pickM_mt {r c : Nat} {m : List (List Nat)} (hm : Mt r c m) {l : List Nat} (hl : ∀ x ∈ l, x < r) : Mt l.length c (pickM m l) := by
  have h := pickS_mt hm hl l.length
  rw [pickS_all] at h
  exact h
theorem mulM_mt {ra rb c : Nat} {a b : List (List Nat)} (ha : a.length = ra) (hb : Mt rb c b) : Mt ra c (mulM c a b) := by
  have h := mulS_mt (c := c) hb a a.length 0 (by omega)
  rw [mulS_all, ha] at h
  exact h
/-- Behind the picking. -/
def Pk1 (w wx : World) (k m : Nat) (s10 : Value) : Prop :=
  ∃ b10 g, s10 = .pointer (some ⟨b10, 0, none⟩) ∧ Blk wx b10 [.int .i64 (k : Int), .int .i64 (k : Int), .slice (some ⟨g, 0, none⟩) (k * k) (k * k)] 41 ∧ Blk wx g (cellsM (topM k m) []) 5 ∧ Kept [] w wx
theorem Pk1.late {w w2 : World} {k m g : Nat} (hb : Blk w2 g (cellsM (topM k m) []) 5) (hk : Kept [] w w2) :
    Pk1 w (w2.alloc (.cells #[.int .i64 (k : Int), .int .i64 (k : Int), .slice (some ⟨g, 0, none⟩) (k * k) (k * k)] 41)) k m (.pointer (some ⟨w2.heap.size, 0, none⟩)) :=
  ⟨_, g, rfl, Blk.new w2 _ _, hb.alloc _, hk.alloc _⟩
theorem Pk1.early {w w2 : World} {k m g b10 : Nat} (hb : Blk w2 g (cellsM (topM k m) []) 5) (hk : Kept [] w w2) (hz : Blk w2 b10 [.int .i64 0, .int .i64 0, .slice none 0 0] 41) (h0 : w.heap.size ≤ b10) :
    Pk1 w (((w2.setCell ⟨b10, 0, none⟩ (.int .i64 (k : Int))).setCell ⟨b10, 1, none⟩ (.int .i64 (k : Int))).setCell ⟨b10, 2, none⟩ (.slice (some ⟨g, 0, none⟩) (k * k) (k * k))) k m (.pointer (some ⟨b10, 0, none⟩)) := by
  have hne : g ≠ b10 := fun h => by
    rw [h] at hb
    exact absurd (hb.ty hz) (by decide)
  exact ⟨b10, g, rfl, ((hz.set 0 _).set 1 _).set 2 _, ((hb.set_ne (a := ⟨b10, 0, none⟩) hne _).set_ne (a := ⟨b10, 1, none⟩) hne _).set_ne (a := ⟨b10, 2, none⟩) hne _,
    ((hk.setCell (p := ⟨b10, 0, none⟩) (.inr h0) _).setCell (p := ⟨b10, 1, none⟩) (.inr h0) _).setCell (p := ⟨b10, 2, none⟩) (.inr h0) _⟩
def CodP (w : World) (t k m : Nat) (e : Ending) (w' : World) : Prop :=
  ∃ g, e = .returned (.tuple #[.pointer (some ⟨g, 0, none⟩), .int .i64 0]) ∧ w.heap.size ≤ g ∧ Kept [] w w' ∧ match genRows k m with
    | some R => ∃ gr, Blk w' g [.int .i64 (k : Int), .int .i64 (m : Int), .pointer (some ⟨t, 0, none⟩), .int .i64 ((k + m : Nat) : Int), .int .i64 (k : Int), .slice (some ⟨gr, 0, none⟩) ((k + m) * k) ((k + m) * k)] 69 ∧ Blk w' gr (cellsM R []) 5 ∧ Mt (k + m) k R
    | none => Blk w' g [.int .i64 (k : Int), .int .i64 (m : Int), .pointer (some ⟨t, 0, none⟩), .int .i64 0, .int .i64 0, .slice none 0 0] 69
set_option maxRecDepth 100000 in
set_option maxHeartbeats 8000000 in
theorem rsnew_any (t k m : Nat) (w : World) (hT : Blk w t (tabC 255) 73) (hk1 : 1 ≤ k) (hkm : k + m ≤ 255) :
    Calls Try.prog 11 #[.pointer (some ⟨t, 0, none⟩), .int .i64 k, .int .i64 m] w (CodP w t k m) := by
  generalize hPP : CodP w t k m = PP
  have HPP := hx hPP
  have hz := zeroMx
  have HT := hx hT
  have hki : (1 : Int) ≤ (k : Int) := by omega
  have hki2 : (k : Int) ≤ 255 := by omega
  have hmi : (m : Int) ≤ 255 - (k : Int) := by omega
  obtain ⟨N, hN⟩ : ∃ N, k + m = N := ⟨_, rfl⟩
  have hNi : (k : Int) + (m : Int) = (N : Int) := by omega
  have HN := hx hN
  have HPO := hx (powers_any t N k w hT (by omega) (by omega))
  have HFI := hx (fun w9 => first_any k w9 (by omega))
  have ham := allM_mt k m
  have HTM := hx (show Mt k k (topM k m) by have h := pickM_mt (allM_mt k m) (l := List.range k) (fun x hx => by rw [List.mem_range] at hx; omega); rw [List.length_range] at h; exact h)
  have hall : allM k m = genM N k gpow := by rw [← hN]; rfl
  rw [hN] at ham
  have HAM := hx ham
  rw [← hall] at HPO
  have HKN := hx (show N ≤ 255 ∧ k ≤ N ∧ k ≤ 255 by omega)
  unfold mv at *
  clear hT hPP hN ham hall hkm
  go_enter Try.func11, Try.ntmps11
  go_wp2_with fail
  refine HPO.out.mono ?_
  rintro e w1 ⟨ga, rfl, hga, hba, hka⟩
  have KA := hx (hka.alloc (.cells #[.int .i64 (N : Int), .int .i64 (k : Int), .slice (some ⟨ga, 0, none⟩) (N * k) (N * k)] 41))
  have BA := hx (hba.alloc (.cells #[.int .i64 (N : Int), .int .i64 (k : Int), .slice (some ⟨ga, 0, none⟩) (N * k) (N * k)] 41))
  have B8 := hx (Blk.new w1 [.int .i64 (N : Int), .int .i64 (k : Int), .slice (some ⟨ga, 0, none⟩) (N * k) (N * k)] 41)
  have HGA := hx hga
  clear hga hba hka HPO
  go_upto_region 4 with fail
  generalize w1.heap.size = b8 at *
  generalize w1.alloc (.cells #[.int .i64 (N : Int), .int .i64 (k : Int), .slice (some ⟨ga, 0, none⟩) (N * k) (N * k)] 41) = w2 at *
  go_cut [10] from 41 to 48 (fun s10 wx => Pk1 w2 wx k m s10)
  case first =>
    have c80 := B8.out.cell (i := 0) rfl
    have c81 := B8.out.cell (i := 1) rfl
    have c82 := B8.out.cell (i := 2) rfl
    have hkd : Kept [] w2 w2.drew := (Kept.refl [] w2).drew
    have HPI := hx (fun w9 (hk : Kept [] w2 w9) a3 (hI : In w9 a3 (List.range k)) => pick_any ga N k (N * k) k (allM k m) [] a3 (List.range k) w9 (hk.blk BA.out (by simp)) HAM.out HKN.out.1 HKN.out.2.2 hk1 (Nat.le_refl _) (fun x hx => by rw [List.mem_range] at hx; have h := HKN.out; omega) (by rw [List.length_range]; exact HKN.out.2.2) hI)
    rw [List.length_range] at HPI
    unfold mv at HPI
    have KAA := (Kept.refl [] w2).alloc (.cells #[.int .i64 0, .int .i64 0, .slice none 0 0] 41)
    have p0 := kept_cell KAA c80
    have p1 := kept_cell KAA c81
    have p2 := kept_cell KAA c82
    clear KAA
    have flag : True := trivial
    go_region_with (first | (have flag2 := flag; clear flag flag2; go_at_call 28; refine (HFI.out _).mono ?_; rintro e w9 ⟨ax, rfl, hin, hk9⟩; have hkk9 : Kept [] w2 w9 := Kept.trans0 (by first | assumption | exact (Kept.refl [] w2).drew.alloc _) hk9; have d0 := kept_cell hkk9 c80; have d1 := kept_cell hkk9 c81; have d2 := kept_cell hkk9 c82; have KA9 := (Kept.refl [] w9).alloc (.cells #[.int .i64 0, .int .i64 0, .slice none 0 0] 41); have q0 := kept_cell KA9 d0; have q1 := kept_cell KA9 d1; have q2 := kept_cell KA9 d2; clear KA9; have HIN := hx hin; try (have bz : Blk w9 w2.heap.size [.int .i64 0, .int .i64 0, .slice none 0 0] 41 := hk9.blk (Blk.new w2.drew [.int .i64 0, .int .i64 0, .slice none 0 0] 41) (by simp)); clear hk9 hin) | (go_at_call 27; refine (HPI.out _ (by first | assumption | exact Kept.alloc (by assumption) _) _ (by first | exact HIN.out | exact HIN.out.kept ((Kept.refl [] _).alloc _))).mono ?_; rintro e w8 ⟨g, rfl, hg, hbg, hk8⟩; have hkk8 : Kept [] w2 w8 := Kept.trans0 (by first | assumption | exact Kept.alloc (by assumption) _) hk8; first | (have bz2 : Blk w8 w2.heap.size [.int .i64 0, .int .i64 0, .slice none 0 0] 41 := hk8.blk bz (by simp); have z0 := bz2.cell (i := 0) rfl; have z1 := bz2.cell (i := 1) rfl; have z2 := bz2.cell (i := 2) rfl; have zf := bz2.free) | (have bz2 : Blk w8 w9.heap.size [.int .i64 0, .int .i64 0, .slice none 0 0] 41 := hk8.blk (Blk.new w9 [.int .i64 0, .int .i64 0, .slice none 0 0] 41) (by simp); have z0 := bz2.cell (i := 0) rfl; have z1 := bz2.cell (i := 1) rfl; have z2 := bz2.cell (i := 2) rfl; have zf := bz2.free) | skip))
    all_goals (go_wp2_with fail; go_meet)
    all_goals first | exact Pk1.late hbg hkk8 | exact Pk1.early hbg hkk8 bz2 (Nat.le_refl _) | exact Pk1.early hbg hkk8 bz2 hkk9.size
  case rest =>
  obtain ⟨b10, g, rfl, hb10, hbg, hkg⟩ := hcut
  have B10 := hx hb10
  have BT := hx hbg
  have KG := hx hkg
  have B82 := hx (hkg.blk B8.out (by simp))
  have BA2 := hx (hkg.blk BA.out (by simp))
  have KA2 := hx (KA.out.trans0 hkg)
  have hkk : k * k ≤ 65025 := mul_le (by omega) (by omega)
  have HIN := hx (invert_any t k g (k * k) (topM k m) [] wc (KA2.out.blk HT.out (by simp)) BT.out HTM.out (by omega) hk1 (Nat.le_refl _) (by unfold maxLen; omega))
  have HGR := hx (show genRows k m = (invM k (topM k m)).map fun inv => mulM k (allM k m) inv from rfl)
  unfold mv at HIN
  generalize invM k (topM k m) = res at *
  clear hb10 hbg hkg B8 BA KA HFI hkk
  have c100 := B10.out.cell (i := 0) rfl
  have c101 := B10.out.cell (i := 1) rfl
  have c102 := B10.out.cell (i := 2) rfl
  go_wp2_with fail
  refine HIN.out.mono ?_
  rintro e w5 hin
  cases res with
  | none =>
    obtain ⟨rfl, hk5⟩ := hin
    have KA5 := hx ((KA2.out.trans0 hk5).alloc (.cells #[.int .i64 0, .int .i64 0, .slice none 0 0] 41))
    have B85 := hx ((hk5.blk B82.out (by simp)).alloc (.cells #[.int .i64 0, .int .i64 0, .slice none 0 0] 41))
    have B12 := hx (Blk.new w5 [.int .i64 0, .int .i64 0, .slice none 0 0] 41)
    clear hk5 c100 c101 c102 B10 BT KG B82 BA2 KA2 HIN
    go_upto_region 6 with fail
    generalize w5.heap.size = b12 at *
    generalize w5.alloc (.cells #[.int .i64 0, .int .i64 0, .slice none 0 0] 41) = w6 at *
    have c80 := B85.out.cell (i := 0) rfl
    have c81 := B85.out.cell (i := 1) rfl
    have c82 := B85.out.cell (i := 2) rfl
    have c120 := B12.out.cell (i := 0) rfl
    have c121 := B12.out.cell (i := 1) rfl
    have c122 := B12.out.cell (i := 2) rfl
    have HM0 := hx (mmul0_any t ga N k (N * k) w6 HKN.out.1 HKN.out.2.2 hk1)
    unfold mv at HM0
    go_wp2_with fail
    refine HM0.out.mono ?_
    rintro e w7 ⟨rfl, hk7⟩
    have KA7 := hx ((KA5.out.trans0 hk7).alloc (.cells #[.int .i64 0, .int .i64 0, .slice none 0 0] 41))
    have B14 := hx (Blk.new w7 [.int .i64 0, .int .i64 0, .slice none 0 0] 41)
    clear hk7 c80 c81 c82 c120 c121 c122 KA5 B85 B12 HM0
    go_upto_region 7 with fail
    generalize w7.heap.size = b14 at *
    generalize w7.alloc (.cells #[.int .i64 0, .int .i64 0, .slice none 0 0] 41) = w8 at *
    have c0 := B14.out.cell (i := 0) rfl
    have c1 := B14.out.cell (i := 1) rfl
    have c2 := B14.out.cell (i := 2) rfl
    go_wp2_with fail
    rw [← HPP.out]
    refine ⟨w8.heap.size, rfl, KA7.out.size, KA7.out.alloc _, ?_⟩
    rw [HGR.out]
    exact Blk.new w8 _ _
  | some inv =>
    obtain ⟨gi, rfl, hgi, hbi, hmi, hk5⟩ := hin
    simp only [mv]
    have KA5 := hx ((KA2.out.trans0 hk5).alloc (.cells #[.int .i64 (k : Int), .int .i64 (k : Int), .slice (some ⟨gi, 0, none⟩) (k * k) (k * k)] 41))
    have B85 := hx ((hk5.blk B82.out (by simp)).alloc (.cells #[.int .i64 (k : Int), .int .i64 (k : Int), .slice (some ⟨gi, 0, none⟩) (k * k) (k * k)] 41))
    have BA5 := hx ((hk5.blk BA2.out (by simp)).alloc (.cells #[.int .i64 (k : Int), .int .i64 (k : Int), .slice (some ⟨gi, 0, none⟩) (k * k) (k * k)] 41))
    have BI5 := hx (hbi.alloc (.cells #[.int .i64 (k : Int), .int .i64 (k : Int), .slice (some ⟨gi, 0, none⟩) (k * k) (k * k)] 41))
    have B12 := hx (Blk.new w5 [.int .i64 (k : Int), .int .i64 (k : Int), .slice (some ⟨gi, 0, none⟩) (k * k) (k * k)] 41)
    have HMI := hx hmi
    clear hk5 hgi hbi hmi c100 c101 c102 B10 BT KG B82 BA2 KA2 HIN
    go_upto_region 6 with fail
    generalize w5.heap.size = b12 at *
    generalize w5.alloc (.cells #[.int .i64 (k : Int), .int .i64 (k : Int), .slice (some ⟨gi, 0, none⟩) (k * k) (k * k)] 41) = w6 at *
    have c80 := B85.out.cell (i := 0) rfl
    have c81 := B85.out.cell (i := 1) rfl
    have c82 := B85.out.cell (i := 2) rfl
    have c120 := B12.out.cell (i := 0) rfl
    have c121 := B12.out.cell (i := 1) rfl
    have c122 := B12.out.cell (i := 2) rfl
    have HM0 := hx (mmul_any t ga N k (N * k) gi k (k * k) (allM k m) inv [] [] w6 (KA5.out.blk HT.out (by simp)) BA5.out HAM.out BI5.out HMI.out HKN.out.1 HKN.out.2.2 HKN.out.2.2 hk1 hk1 (Nat.le_refl _) (Nat.le_refl _))
    unfold mv at HM0
    go_wp2_with fail
    refine HM0.out.mono ?_
    rintro e w7 ⟨gr, rfl, hgr, hbr, hk7⟩
    have KA7 := hx ((KA5.out.trans0 hk7).alloc (.cells #[.int .i64 (N : Int), .int .i64 (k : Int), .slice (some ⟨gr, 0, none⟩) (N * k) (N * k)] 41))
    have B14 := hx (Blk.new w7 [.int .i64 (N : Int), .int .i64 (k : Int), .slice (some ⟨gr, 0, none⟩) (N * k) (N * k)] 41)
    have BR := hx (hbr.alloc (.cells #[.int .i64 (N : Int), .int .i64 (k : Int), .slice (some ⟨gr, 0, none⟩) (N * k) (N * k)] 41))
    clear hk7 hbr hgr c80 c81 c82 c120 c121 c122 KA5 B85 B12 HM0 BA5 BI5
    go_upto_region 7 with fail
    generalize w7.heap.size = b14 at *
    generalize w7.alloc (.cells #[.int .i64 (N : Int), .int .i64 (k : Int), .slice (some ⟨gr, 0, none⟩) (N * k) (N * k)] 41) = w8 at *
    have c0 := B14.out.cell (i := 0) rfl
    have c1 := B14.out.cell (i := 1) rfl
    have c2 := B14.out.cell (i := 2) rfl
    go_wp2_with fail
    rw [← HPP.out]
    refine ⟨w8.heap.size, rfl, KA7.out.size, KA7.out.alloc _, ?_⟩
    rw [HGR.out, HN.out]
    exact ⟨gr, Blk.new w8 _ _, BR.out.alloc _, mulM_mt HAM.out.rows HMI.out⟩
end Go.Proofs.Ytjgnngnknhkpmaa
