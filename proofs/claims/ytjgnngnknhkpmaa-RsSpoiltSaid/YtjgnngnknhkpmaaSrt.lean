/- The library's sort and clone at this program. Printed by the kit's lay-plain.mjs out of k/Slf.base. The program's sort of shards. -/
import Derived.Ground.SlsfProg
import Derived.Ground.SlgnProg
import Derived.Shelf.SlSortCmp.WholeK
import Derived.Shelf.SlicesE.Clone
import Derived.Test.YtjgnngnknhkpmaaProg
import Derived.Test.YtjgnngnknhkpmaaShd
namespace Go.Proofs.Ytjgnngnknhkpmaa
open Go Go.Proofs Go.Shelf
def Try.sortSh_ren : Go.Shelf.Ren := ⟨fun | 6 => 39 | 15 => 53 | 14 => 52 | 28 => 66 | 29 => 67 | 20 => 58 | 21 => 59 | 22 => 60 | 23 => 61 | 24 => 62 | 25 => 63 | 26 => 64 | 27 => 65 | 46 => 68 | 47 => 69 | 48 => 70 | 49 => 71 | 50 => 72 | 57 => 73 | n => n, fun | 22 => 45 | 24 => 47 | 25 => 83 | 3 => 3 | 39 => 74 | 0 => 0 | 53 => 111 | 55 => 113 | 4 => 4 | 46 => 104 | 45 => 103 | 50 => 108 | 5 => 5 | 9 => 9 | 66 => 114 | 70 => 118 | 76 => 120 | 77 => 121 | n => n, fun | n => n⟩
theorem Try.sortSh : Go.Proofs.SlLaysF0.n6 Try.prog Try.sortSh_ren := {
  mixed := by kernel_rfl
  f6 := ⟨Try.f39.name, by decide, Try.func39.trans (congrArg some (by kernel_rfl))⟩
  f14 := ⟨Try.f52.name, by decide, Try.func52.trans (congrArg some (by kernel_rfl))⟩
  f15 := Try.func53.trans (congrArg some (by kernel_rfl))
  f20 := ⟨Try.f58.name, by decide, Try.func58.trans (congrArg some (by kernel_rfl))⟩
  f21 := ⟨Try.f59.name, by decide, Try.func59.trans (congrArg some (by kernel_rfl))⟩
  f22 := ⟨Try.f60.name, by decide, Try.func60.trans (congrArg some (by kernel_rfl))⟩
  f23 := ⟨Try.f61.name, by decide, Try.func61.trans (congrArg some (by kernel_rfl))⟩
  f24 := ⟨Try.f62.name, by decide, Try.func62.trans (congrArg some (by kernel_rfl))⟩
  f25 := ⟨Try.f63.name, by decide, Try.func63.trans (congrArg some (by kernel_rfl))⟩
  f26 := ⟨Try.f64.name, by decide, Try.func64.trans (congrArg some (by kernel_rfl))⟩
  f27 := ⟨Try.f65.name, by decide, Try.func65.trans (congrArg some (by kernel_rfl))⟩
  f28 := Try.func66.trans (congrArg some (by kernel_rfl))
  f29 := Try.func67.trans (congrArg some (by kernel_rfl))
  f46 := ⟨Try.f68.name, by decide, Try.func68.trans (congrArg some (by kernel_rfl))⟩
  f47 := Try.func69.trans (congrArg some (by kernel_rfl))
  f48 := Try.func70.trans (congrArg some (by kernel_rfl))
  f49 := ⟨Try.f71.name, by decide, Try.func71.trans (congrArg some (by kernel_rfl))⟩
  f50 := ⟨Try.f72.name, by decide, Try.func72.trans (congrArg some (by kernel_rfl))⟩
  f57 := ⟨Try.f73.name, by decide, Try.func73.trans (congrArg some (by kernel_rfl))⟩
  t0 := Try.underlying0
  a0 := Try.isAgg0
  z0 := Try.sizeOf0
  v0 := Try.zeroValue0
  t3 := Try.underlying3
  a3 := Try.isAgg3
  z3 := Try.sizeOf3
  v3 := Try.zeroValue3
  t4 := Try.underlying4
  a4 := Try.isAgg4
  z4 := Try.sizeOf4
  v4 := Try.zeroValue4
  t5 := Try.underlying5
  a5 := Try.isAgg5
  z5 := Try.sizeOf5
  v5 := Try.zeroValue5
  t9 := Try.underlying9
  a9 := Try.isAgg9
  z9 := Try.sizeOf9
  v9 := Try.zeroValue9
  t22 := Try.underlying45
  a22 := Try.isAgg45
  z22 := Try.sizeOf45
  v22 := Try.zeroValue45
  t25 := Try.underlying83
  a25 := Try.isAgg83
  z25 := Try.sizeOf83
  v25 := Try.zeroValue83
  t39 := Try.underlying74
  a39 := Try.isAgg74
  z39 := Try.sizeOf74
  v39 := Try.zeroValue74
  t45 := Try.underlying103
  a45 := Try.isAgg103
  z45 := Try.sizeOf103
  v45 := Try.zeroValue103
  t46 := Try.underlying104
  a46 := Try.isAgg104
  z46 := Try.sizeOf104
  v46 := Try.zeroValue104
  t50 := Try.underlying108
  a50 := Try.isAgg108
  z50 := Try.sizeOf108
  v50 := Try.zeroValue108
  t53 := Try.underlying111
  a53 := Try.isAgg111
  z53 := Try.sizeOf111
  v53 := Try.zeroValue111
  t55 := Try.underlying113
  a55 := Try.isAgg113
  z55 := Try.sizeOf113
  v55 := Try.zeroValue113
  t66 := Try.underlying114
  a66 := Try.isAgg114
  z66 := Try.sizeOf114
  v66 := Try.zeroValue114
  t70 := Try.underlying118
  a70 := Try.isAgg118
  z70 := Try.sizeOf118
  v70 := Try.zeroValue118
  t76 := Try.underlying120
  a76 := Try.isAgg120
  z76 := Try.sizeOf120
  v76 := Try.zeroValue120
  t77 := Try.underlying121
  a77 := Try.isAgg121
  z77 := Try.sizeOf121
  v77 := Try.zeroValue121 }
def Try.cloneSh_ren : Go.Shelf.Ren := ⟨fun | 41 => 38 | n => n, fun | 22 => 45 | 23 => 47 | 4 => 4 | n => n, fun | n => n⟩
theorem Try.cloneSh : Go.Proofs.SlLaysE0.n41 Try.prog Try.cloneSh_ren := {
  mixed := by kernel_rfl
  f41 := ⟨Try.f38.name, by decide, Try.func38.trans (congrArg some (by kernel_rfl))⟩
  t4 := Try.underlying4
  a4 := Try.isAgg4
  z4 := Try.sizeOf4
  v4 := Try.zeroValue4
  t22 := Try.underlying45
  a22 := Try.isAgg45
  z22 := Try.sizeOf45
  v22 := Try.zeroValue45 }
end Go.Proofs.Ytjgnngnknhkpmaa
namespace Go.Proofs.Ytjgnngnknhkpmaa
open Go Go.RowKit Go.Shelf Go.Sort
abbrev Sf := { s : Sd // 0 ≤ s.x ∧ s.x < 256 }
instance : Inhabited Sf := ⟨⟨s0, by decide⟩⟩
def encS (s : Sf) : List Value := [.int .i64 s.1.x, .slice s.1.a s.1.l.length s.1.c]
def cfS (s t : Sf) : Int := s.1.x - t.1.x
theorem ltS (s t : Sf) : ltOf cfS s t = decide (s.1.x < t.1.x) := by
  unfold ltOf cfS
  by_cases h : s.1.x < t.1.x
  · rw [decide_eq_true h, decide_eq_true (by omega)]
  · rw [decide_eq_false h, decide_eq_false (by omega)]
theorem swoS : SWO (ltOf cfS) where
  irrefl x := by rw [ltS]; simp
  trans x y z h1 h2 := by rw [ltS] at *; simp only [decide_eq_true_eq] at *; omega
  ntrans x y z h1 h2 := by rw [ltS] at *; simp only [decide_eq_false_iff_not] at *; omega
set_option maxHeartbeats 1000000 in
theorem closS (x y : Sf) (W : World) : Calls Try.prog 40 #[.agg #[.int .i64 x.1.x, .slice x.1.a x.1.l.length x.1.c], .agg #[.int .i64 y.1.x, .slice y.1.a y.1.l.length y.1.c]] W fun e w' => e = .returned (.int .i64 (cfS x y)) ∧ ∃ q os', w' = grow (W.drewN q) os' := by
  obtain ⟨⟨x1, x2, x3, x4⟩, hp1, hp2⟩ := x
  obtain ⟨⟨y1, y2, y3, y4⟩, hq1, hq2⟩ := y
  have h1 : 0 ≤ x1 := hp1
  have h2 : x1 < 256 := hp2
  have h3 : 0 ≤ y1 := hq1
  have h4 : y1 < 256 := hq2
  have hw : wrap64 (x1 - y1) = x1 - y1 := by unfold wrap64; omega
  simp only [cfS]
  go_enter Try.func40, Try.ntmps40
  go_wp2
  go_ret
  exact ⟨rfl, 0, _, by rw [alloc_eq_grow, alloc_eq_grow, grow_grow]; rfl⟩
theorem cmpS (blk off size : Nat) (w : World) : CmpLays Try.prog 40 #[] encS 2 cfS blk off size w := fun _ _ _ _ x y => closS x y _
theorem kept_sort (w : World) (blk off n : Nat) (d : Array Sf) (os : Array Obj) : Kept [blk] w (sortWorldK encS 2 w blk off n d os) := by
  refine ⟨rfl, rfl, rfl, size_sortWorldK_c encS 2 w blk off n d os, fun k hk hn => ?_⟩
  show (w.heap.modify blk _ ++ os)[k]? = _
  rw [Array.getElem?_append_left (by simpa using hk), Array.getElem?_modify, if_neg (by intro e; exact hn (by simp [e]))]
/-- The shards as such. -/
def arr (L : List Sd) (h : ∀ s ∈ L, 0 ≤ s.x ∧ s.x < 256) : Array Sf := Array.ofFn fun i : Fin L.length => ⟨L[i], h _ (List.getElem_mem _)⟩
theorem arr_size (L : List Sd) (h : ∀ s ∈ L, 0 ≤ s.x ∧ s.x < 256) : (arr L h).size = L.length := by simp [arr]
theorem arr_at (L : List Sd) (h : ∀ s ∈ L, 0 ≤ s.x ∧ s.x < 256) {i : Nat} (hi : i < L.length) : ((arr L h)[i]!).1 = sd L i := by
  rw [getElem!_pos (arr L h) i (by rw [arr_size]; exact hi), sd_get hi]
  simp [arr]
theorem arr_list (L : List Sd) (h : ∀ s ∈ L, 0 ≤ s.x ∧ s.x < 256) : (arr L h).toList.map (·.1) = L := by
  apply List.ext_getElem
  · simp [arr]
  · intro i h1 h2
    simp [arr]
theorem sorted_of {L : List Sd} {d' : Array Sf} (hn : (L.map (·.x)).Nodup) (hp : (d'.toList.map (·.1)).Perm L) (hs : SortedIn (ltOf cfS) 0 d'.size d') : (d'.toList.map (·.1)).Pairwise fun a b : Sd => a.x < b.x := by
  have hnd : ((d'.toList.map (·.1)).map (·.x)).Nodup := (hp.map _).nodup_iff.2 hn
  rw [List.pairwise_iff_getElem]
  intro i j hi hj hij
  have hi2 : i < d'.size := by simpa using hi
  have hj2 : j < d'.size := by simpa using hj
  have h1 := hs i j (Nat.zero_le _) hij hj2
  rw [ltS, getElem!_pos d' i hi2, getElem!_pos d' j hj2] at h1
  simp only [decide_eq_false_iff_not] at h1
  have h2 := (List.pairwise_iff_getElem.1 hnd) i j (by simpa using hi2) (by simpa using hj2) hij
  simp only [List.getElem_map, Array.getElem_toList] at h2 ⊢
  omega
theorem good_bound {N : Nat} {L : List Sd} (hg : Good N L) : ∀ s ∈ L, 0 ≤ s.x ∧ s.x < (N : Int) := fun s hs => by
  obtain ⟨i, hi, rfl⟩ := List.getElem_of_mem hs
  have h := (hg i hi).1
  rw [sd_get hi] at h
  exact h
theorem good_nodup {N : Nat} {L : List Sd} (hg : Good N L) : (L.map (·.x)).Nodup := by
  have h : ∀ i, i ≤ L.length → (xsn L i).Nodup := fun i => by
    induction i with
    | zero => intro _; simp [xsn]
    | succ i ih =>
      intro hi
      rw [xsn_step, List.nodup_append]
      refine ⟨ih (by omega), by simp, fun a ha b hb e => ?_⟩
      rw [List.mem_singleton] at hb
      rw [e, hb] at ha
      exact (hg i (by omega)).2 ha
  have e : xsn L L.length = L.map (·.x) := by
    apply List.ext_getElem
    · simp [xsn]
    · intro i h1 h2
      have hi : i < L.length := by simpa using h2
      simp [xsn, sd_get hi]
  rw [← e]
  exact h _ (Nat.le_refl _)
/-- The sort's contract. -/
theorem sort_any (g cap N : Nat) (L : List Sd) (w0 w : World) (hN : N ≤ 255) (hg : Good N L) (hL : L.length ≤ 1000) (hk : Kept [] w0 w) (hb0 : w0.heap.size ≤ g) (hb1 : g < w.heap.size)
    (hc : ∀ i, i < L.length → (w.cell? ⟨g, i * 2, none⟩ = some (.int .i64 (sd L i).x) ∧ w.frozen? ⟨g, i * 2, none⟩ = false) ∧ w.cell? ⟨g, i * 2 + 1, none⟩ = some (.slice (sd L i).a (sd L i).l.length (sd L i).c) ∧ w.frozen? ⟨g, i * 2 + 1, none⟩ = false)
    (hr : ∀ s ∈ L, Bn w0 s.a s.l) :
    Calls Try.prog 39 #[.slice (some ⟨g, 0, none⟩) L.length cap, .func (.func 40) #[] #[]] w fun e w' => e = .returned (.tuple #[]) ∧ ∃ S, S.Perm L ∧ S.Pairwise (fun a b : Sd => a.x < b.x) ∧ Sh w' (some ⟨g, 0, none⟩) S ∧ Kept [] w0 w' := by
  have hbd : ∀ s ∈ L, 0 ≤ s.x ∧ s.x < 256 := fun s hs => by have := good_bound hg s hs; omega
  have hH : HoldsK encS 2 w g 0 (arr L hbd) := fun j hj => by
    have hj2 : j < (arr L hbd).size * 2 := by simpa using hj
    rw [get_flatK _ _ _ _ hj2]
    have hj3 : j < L.length * 2 := by rw [arr_size] at hj2; exact hj2
    have h1 := hc (j / 2) (by omega)
    have h2 := arr_at L hbd (i := j / 2) (by omega)
    rcases Nat.mod_two_eq_zero_or_one j with e | e
    · have e2 : j / 2 * 2 = j := by omega
      rw [e2] at h1
      rw [Nat.zero_add, e, id, encS, h2]
      exact h1.1
    · have e2 : j / 2 * 2 + 1 = j := by omega
      rw [e2] at h1
      rw [Nat.zero_add, e, id, encS, h2]
      exact h1.2
  have eg : ∀ args w, (callFunc 40 args).run Try.prog w = .ok (.enter 40 args) w := enters_of Try.func40 (by kernel_rfl) rfl
  have hcon := AnyQ.slices_SortFunc Try.sortSh 2 Try.isAgg47 Try.sizeOf47 encS (fun _ => rfl) (fun x v hv => by simp only [encS, List.mem_cons, List.not_mem_nil, or_false] at hv; rcases hv with rfl | rfl <;> rfl) cfS swoS 40 #[] g 0 cap (arr L hbd) w eg (cmpS g 0 _ w) hH hb1 (by rw [arr_size]; omega)
  rw [arr_size] at hcon
  refine Calls.mono hcon ?_
  rintro e w' ⟨rfl, d', n, os, hp, hs, rfl⟩
  obtain ⟨hsz, _, hperm⟩ := hp
  have e1 : d'.extract 0 L.length = d' := by
    have h : d'.extract 0 d'.size = d' := Array.extract_size
    rw [hsz, arr_size] at h
    exact h
  have e2 : (arr L hbd).extract 0 L.length = arr L hbd := by
    have h : (arr L hbd).extract 0 (arr L hbd).size = arr L hbd := Array.extract_size
    rw [arr_size] at h
    exact h
  rw [e1, e2] at hperm
  have hpl : (d'.toList.map (·.1)).Perm L := by
    have h := hperm.map (fun s : Sf => s.1)
    rw [arr_list] at h
    exact h
  have hd : d'.size = L.length := by rw [hsz, arr_size]
  have hkw : Kept [] w0 (sortWorldK encS 2 w g 0 n d' os) := hk.trans (kept_sort w g 0 n d' os) (fun _ h => h) (fun x hx => by rw [List.mem_singleton] at hx; right; omega)
  refine ⟨rfl, d'.toList.map (·.1), hpl, sorted_of (good_nodup hg) hpl (by rw [hd]; exact hs), fun i hi => ?_, hkw⟩
  have hi2 : i < d'.size := by simpa using hi
  have hH2 := holdsK_sortWorldK_c encS 2 w g 0 (arr L hbd) d' n os hH hb1 (by rw [hd, arr_size])
  have q0 := (hH2.cell hi2 (c := 0) (by omega)).1
  have q1 := (hH2.cell hi2 (c := 1) (by omega)).1
  have e3 : (d'[i]!).1 = sd (d'.toList.map (·.1)) i := by
    rw [getElem!_pos d' i hi2, sd_get hi]
    simp
  rw [encS] at q0 q1
  rw [e3] at q0 q1
  refine ⟨g, 0, rfl, q0, q1, ?_⟩
  exact (hr _ (hpl.mem_iff.1 (sd_mem hi))).kept hkw
end Go.Proofs.Ytjgnngnknhkpmaa
