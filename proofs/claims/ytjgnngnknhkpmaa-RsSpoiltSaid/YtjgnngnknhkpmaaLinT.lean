/- Gauss: what Invert returns is the inverse, where there is one. -/
import Derived.Test.YtjgnngnknhkpmaaMatL
import Derived.Test.YtjgnngnknhkpmaaPolT
namespace Go.Proofs.Ytjgnngnknhkpmaa
open Go
def ent (m : List (List Nat)) (i j : Nat) : F := toF ((rw m i).getD j 0)
theorem toF_xor (a b : Nat) (ha : a < 256) (hb : b < 256) : toF (a ^^^ b) = toF a + toF b := F.ext' (by
  rw [F.add_v, toF_v ha, toF_v hb, toF_v (Nat.xor_lt_two_pow (n := 8) ha hb)])
theorem toF_gmul (a b : Nat) (ha : a < 256) (hb : b < 256) : toF (gmul a b) = toF a * toF b := F.ext' (by
  rw [F.mul_v, toF_v ha, toF_v hb, toF_v (gmul_lt _ _)])
theorem toF_inj {a b : Nat} (ha : a < 256) (hb : b < 256) (h : toF a = toF b) : a = b := by
  have h1 := congrArg F.v h
  rw [toF_v ha, toF_v hb] at h1
  exact h1
theorem toF_zero : toF 0 = 0 := F.ext' rfl
theorem toF_one : toF 1 = 1 := F.ext' rfl
theorem ent_set {r c : Nat} {m : List (List Nat)} (hm : Mt r c m) {k i j : Nat} {x : List Nat} (hk : k < r) : ent (m.set k x) i j = if i = k then toF (x.getD j 0) else ent m i j := by
  unfold ent
  rw [rw_set (by rw [hm.rows]; exact hk)]
  split <;> rfl
theorem mixL_getD (a : Nat) {x y : List Nat} {c j : Nat} (hx : x.length = c) (hy : y.length = c) (hj : j < c) : (mixL a x y).getD j 0 = x.getD j 0 ^^^ gmul a (y.getD j 0) := by
  rw [List.getD_eq_getElem?_getD, mixL_at a x y (by omega) j (by omega)]
  rfl
theorem ent_mix {r c : Nat} {m : List (List Nat)} (hm : Mt r c m) {i k j : Nat} (hi : i < r) (hk : k < r) (hj : j < c) (a : Nat) (ha : a < 256) : toF ((mixL a (rw m i) (rw m k)).getD j 0) = ent m i j + toF a * ent m k j := by
  have h1 := (hm.rowOct hi).at j
  have h2 := (hm.rowOct hk).at j
  rw [mixL_getD a (hm.len hi) (hm.len hk) hj, toF_xor _ _ h1 (gmul_lt _ _), toF_gmul _ _ ha h2]
  rfl
theorem scl_mt {n c at_ col : Nat} {p : Mm} (h1 : Mt n n p.1) (h2 : Mt n c p.2) (hat : at_ < n) : Mt n n (scl at_ col p).1 ∧ Mt n c (scl at_ col p).2 := by
  refine ⟨h1.set at_ (by simp [scaleL, h1.len hat]) ?_, h2.set at_ (by simp [scaleL, h2.len hat]) ?_⟩ <;>
  · intro x hx
    unfold scaleL at hx
    obtain ⟨y, _, rfl⟩ := List.mem_map.1 hx
    exact gmul_lt _ _
theorem scl_ent {n c at_ col : Nat} {p : Mm} (h1 : Mt n n p.1) (h2 : Mt n c p.2) (hat : at_ < n) (i j : Nat) :
    (j < n → ent (scl at_ col p).1 i j = if i = at_ then (ent p.1 at_ col).inv * ent p.1 at_ j else ent p.1 i j) ∧
    (j < c → ent (scl at_ col p).2 i j = if i = at_ then (ent p.1 at_ col).inv * ent p.2 at_ j else ent p.2 i j) := by
  have hg : toF (ginv ((rw p.1 at_).getD col 0)) = (ent p.1 at_ col).inv := F.ext' (by
    rw [toF_v (ginv_lt _), F.inv_v]
    unfold ent
    rw [toF_v ((h1.rowOct hat).at col)])
  have e1 := h1.len hat
  have e2 := h2.len hat
  refine ⟨fun hj => ?_, fun hj => ?_⟩
  · unfold scl
    rw [ent_set h1 hat, scaleL_at _ _ _ (by omega), toF_gmul _ _ (ginv_lt _) ((h1.rowOct hat).at j), hg]
    rfl
  · unfold scl
    rw [ent_set h2 hat, scaleL_at _ _ _ (by omega), toF_gmul _ _ (ginv_lt _) ((h2.rowOct hat).at j), hg]
    rfl
theorem clr_mt {n c at_ col : Nat} {p : Mm} (h1 : Mt n n p.1) (h2 : Mt n c p.2) (hat : at_ < n) : ∀ k, k ≤ n → Mt n n (clrS at_ col p k).1 ∧ Mt n c (clrS at_ col p k).2
  | 0, _ => ⟨h1, h2⟩
  | k + 1, hk => by
    obtain ⟨g1, g2⟩ := clr_mt (col := col) h1 h2 hat k (by omega)
    rw [clrS, clrStep]
    split
    · exact ⟨g1, g2⟩
    · refine ⟨g1.set k ?_ ?_, g2.set k ?_ ?_⟩
      · rw [mixL_len _ _ _ (by rw [g1.len (by omega), g1.len hat]), g1.len (by omega)]
      · exact mixL_oct (g1.rowOct (by omega)) (by rw [g1.len (by omega), g1.len hat])
      · rw [mixL_len _ _ _ (by rw [g2.len (by omega), g2.len hat]), g2.len (by omega)]
      · exact mixL_oct (g2.rowOct (by omega)) (by rw [g2.len (by omega), g2.len hat])
theorem clr_ent {n c at_ col : Nat} {p : Mm} (h1 : Mt n n p.1) (h2 : Mt n c p.2) (hat : at_ < n) (hcol : col < n) : ∀ k, k ≤ n → ∀ i j,
    (j < n → ent (clrS at_ col p k).1 i j = if i < k ∧ i ≠ at_ then ent p.1 i j + ent p.1 i col * ent p.1 at_ j else ent p.1 i j) ∧
    (j < c → ent (clrS at_ col p k).2 i j = if i < k ∧ i ≠ at_ then ent p.2 i j + ent p.1 i col * ent p.2 at_ j else ent p.2 i j)
  | 0, _, i, j => ⟨fun _ => by rw [if_neg (by omega)]; rfl, fun _ => by rw [if_neg (by omega)]; rfl⟩
  | k + 1, hk, i, j => by
    obtain ⟨g1, g2⟩ := clr_mt (col := col) h1 h2 hat k (by omega)
    have ih := clr_ent h1 h2 hat hcol k (by omega)
    rw [clrS, clrStep]
    by_cases hka : k = at_
    · rw [if_pos hka]
      refine ⟨fun hj => ?_, fun hj => ?_⟩
      · rw [(ih i j).1 hj]
        by_cases h : i < k ∧ i ≠ at_
        · rw [if_pos h, if_pos (by omega)]
        · rw [if_neg h, if_neg (by omega)]
      · rw [(ih i j).2 hj]
        by_cases h : i < k ∧ i ≠ at_
        · rw [if_pos h, if_pos (by omega)]
        · rw [if_neg h, if_neg (by omega)]
    · rw [if_neg hka]
      have hkk := (ih k col).1 hcol
      rw [if_neg (by omega)] at hkk
      have hov := (g1.rowOct (i := k) (by omega)).at col
      refine ⟨fun hj => ?_, fun hj => ?_⟩
      · rw [ent_set g1 (by omega), ent_mix g1 (by omega) hat hj _ hov]
        have a1 := (ih k j).1 hj
        have a2 := (ih at_ j).1 hj
        rw [if_neg (by omega)] at a1 a2
        rw [a1, a2, show toF ((rw (clrS at_ col p k).1 k).getD col 0) = ent p.1 k col from hkk, (ih i j).1 hj]
        by_cases h : i = k
        · subst h; rw [if_pos rfl, if_pos (by omega)]
        · rw [if_neg h]
          by_cases h3 : i < k ∧ i ≠ at_
          · rw [if_pos h3, if_pos (by omega)]
          · rw [if_neg h3, if_neg (by omega)]
      · rw [ent_set g2 (by omega), ent_mix g2 (by omega) hat hj _ hov]
        have a1 := (ih k j).2 hj
        have a2 := (ih at_ j).2 hj
        rw [if_neg (by omega)] at a1 a2
        rw [a1, a2, show toF ((rw (clrS at_ col p k).1 k).getD col 0) = ent p.1 k col from hkk, (ih i j).2 hj]
        by_cases h : i = k
        · subst h; rw [if_pos rfl, if_pos (by omega)]
        · rw [if_neg h]
          by_cases h3 : i < k ∧ i ≠ at_
          · rw [if_pos h3, if_pos (by omega)]
          · rw [if_neg h3, if_neg (by omega)]
/-- Which v, w fit together. -/
def Sol (n : Nat) (p : Mm) (v w : Nat → F) : Prop := ∀ i, i < n → dt n (ent p.1 i) v = dt n (ent p.2 i) w
/-- The first columns are those of the unit. -/
def Un (n i : Nat) (m : List (List Nat)) : Prop := ∀ c, c < i → ∀ r, r < n → ent m r c = if r = c then 1 else 0
theorem swap_ent {r c : Nat} {m : List (List Nat)} (hm : Mt r c m) {i k : Nat} (hi : i < r) (hk : k < r) (x j : Nat) : ent (swapM m i k) x j = ent m (if x = i then k else if x = k then i else x) j := by
  unfold swapM
  by_cases h : i = k
  · rw [if_pos h, ← h]
    by_cases h2 : x = i
    · rw [if_pos h2, h2]
    · rw [if_neg h2, if_neg h2]
  · rw [if_neg h]
    have h1 : Mt r c (m.set i (rw m k)) := hm.set i (hm.len hk) (hm.rowOct hk)
    rw [ent_set h1 hk, ent_set hm hi]
    by_cases h2 : x = k
    · rw [if_pos h2, if_neg (by omega), if_pos h2]; rfl
    · rw [if_neg h2]
      by_cases h3 : x = i
      · rw [if_pos h3, if_pos h3]; rfl
      · rw [if_neg h3, if_neg h3, if_neg h2]
theorem sol_swap {n : Nat} {p : Mm} (h1 : Mt n n p.1) (h2 : Mt n n p.2) {i k : Nat} (hi : i < n) (hk : k < n) (v w : Nat → F) : Sol n (swapM p.1 i k, swapM p.2 i k) v w ↔ Sol n p v w := by
  have e : ∀ x, dt n (ent (swapM p.1 i k) x) v = dt n (ent p.1 (if x = i then k else if x = k then i else x)) v ∧ dt n (ent (swapM p.2 i k) x) w = dt n (ent p.2 (if x = i then k else if x = k then i else x)) w := fun x =>
    ⟨dt_congr (fun j _ => swap_ent h1 hi hk x j) fun _ _ => rfl, dt_congr (fun j _ => swap_ent h2 hi hk x j) fun _ _ => rfl⟩
  constructor
  · intro h x hx
    have h3 := h (if x = i then k else if x = k then i else x) (by split; exact hk; split; exact hi; exact hx)
    rw [(e _).1, (e _).2] at h3
    have e2 : (if (if x = i then k else if x = k then i else x) = i then k else if (if x = i then k else if x = k then i else x) = k then i else (if x = i then k else if x = k then i else x)) = x := by
      by_cases g1 : x = i
      · subst g1
        rw [if_pos rfl]
        by_cases g2 : k = x
        · rw [if_pos g2, g2]
        · rw [if_neg g2, if_pos rfl]
      · rw [if_neg g1]
        by_cases g2 : x = k
        · subst g2
          rw [if_pos rfl, if_pos rfl]
        · rw [if_neg g2, if_neg g1, if_neg g2]
    rw [e2] at h3
    exact h3
  · intro h x hx
    have h3 := h (if x = i then k else if x = k then i else x) (by split; exact hk; split; exact hi; exact hx)
    exact ((e x).1.trans h3).trans (e x).2.symm
theorem sol_clr {n : Nat} {p : Mm} (h1 : Mt n n p.1) (h2 : Mt n n p.2) {i : Nat} (hi : i < n) (hp : ent p.1 i i ≠ 0) (v w : Nat → F) : Sol n (clrM n i i p) v w ↔ Sol n p v w := by
  obtain ⟨s1, s2⟩ := scl_mt (col := i) h1 h2 hi
  have hinv : (ent p.1 i i).inv ≠ 0 := fun g => by
    have h3 := F.mul_inv hp
    rw [g, F.mul_zero] at h3
    exact F.one_ne h3.symm
  have E1 : dt n (ent (clrM n i i p).1 i) v = (ent p.1 i i).inv * dt n (ent p.1 i) v ∧ dt n (ent (clrM n i i p).2 i) w = (ent p.1 i i).inv * dt n (ent p.2 i) w := by
    rw [← dt_scale, ← dt_scale]
    refine ⟨dt_congr (fun j hj => ?_) fun _ _ => rfl, dt_congr (fun j hj => ?_) fun _ _ => rfl⟩
    · have g := (clr_ent s1 s2 hi hi n (Nat.le_refl _) i j).1 hj
      rw [if_neg (by omega), (scl_ent h1 h2 hi i j).1 hj, if_pos rfl] at g
      exact g
    · have g := (clr_ent s1 s2 hi hi n (Nat.le_refl _) i j).2 hj
      rw [if_neg (by omega), (scl_ent h1 h2 hi i j).2 hj, if_pos rfl] at g
      exact g
  have E2 : ∀ x, x < n → x ≠ i → dt n (ent (clrM n i i p).1 x) v = dt n (ent p.1 x) v + ent p.1 x i * ((ent p.1 i i).inv * dt n (ent p.1 i) v) ∧ dt n (ent (clrM n i i p).2 x) w = dt n (ent p.2 x) w + ent p.1 x i * ((ent p.1 i i).inv * dt n (ent p.2 i) w) := by
    intro x hx hxi
    rw [← dt_scale n (ent p.1 i i).inv (ent p.1 i) v, ← dt_scale n (ent p.1 i i).inv (ent p.2 i) w, ← dt_mix, ← dt_mix]
    have gx := (scl_ent (col := i) h1 h2 hi x i).1 hi
    rw [if_neg hxi] at gx
    refine ⟨dt_congr (fun j hj => ?_) fun _ _ => rfl, dt_congr (fun j hj => ?_) fun _ _ => rfl⟩
    · have g := (clr_ent s1 s2 hi hi n (Nat.le_refl _) x j).1 hj
      rw [if_pos ⟨hx, hxi⟩, (scl_ent h1 h2 hi x j).1 hj, if_neg hxi, (scl_ent h1 h2 hi i j).1 hj, if_pos rfl, gx] at g
      exact g
    · have g := (clr_ent s1 s2 hi hi n (Nat.le_refl _) x j).2 hj
      rw [if_pos ⟨hx, hxi⟩, (scl_ent h1 h2 hi x j).2 hj, if_neg hxi, (scl_ent h1 h2 hi i j).2 hj, if_pos rfl, gx] at g
      exact g
  constructor
  · intro h
    have hi0 : dt n (ent p.1 i) v = dt n (ent p.2 i) w := by
      have g := h i hi
      rw [E1.1, E1.2] at g
      exact F.mul_cancel hinv g
    intro x hx
    by_cases hxi : x = i
    · rw [hxi]; exact hi0
    · have g := h x hx
      rw [(E2 x hx hxi).1, (E2 x hx hxi).2, hi0, F.add_comm, F.add_comm (dt n (ent p.2 x) w)] at g
      exact F.cancel g
  · intro h x hx
    by_cases hxi : x = i
    · rw [hxi, E1.1, E1.2, h i hi]
    · rw [(E2 x hx hxi).1, (E2 x hx hxi).2, h i hi, h x hx]
theorem un_clr {n : Nat} {p : Mm} (h1 : Mt n n p.1) (h2 : Mt n n p.2) {i : Nat} (hi : i < n) (hp : ent p.1 i i ≠ 0) (hu : Un n i p.1) : Un n (i + 1) (clrM n i i p).1 := by
  obtain ⟨s1, s2⟩ := scl_mt (col := i) h1 h2 hi
  intro c hc r hr
  have g := (clr_ent s1 s2 hi hi n (Nat.le_refl _) r c).1 (by omega)
  rw [(scl_ent h1 h2 hi r c).1 (by omega), (scl_ent h1 h2 hi i c).1 (by omega), if_pos rfl, (scl_ent h1 h2 hi r i).1 hi] at g
  show ent (clrS i i (scl i i p) n).1 r c = _
  rw [g]
  by_cases hri : r = i
  · rw [if_neg (by omega), if_pos hri]
    by_cases hci : c = i
    · rw [hci, if_pos hri, F.mul_comm, F.mul_inv hp]
    · rw [hu c (by omega) i hi, if_neg (by omega), if_neg (by omega), F.mul_zero]
  · rw [if_pos ⟨hr, hri⟩, if_neg hri, if_neg hri]
    by_cases hci : c = i
    · rw [hci, if_neg hri, F.mul_comm (ent p.1 i i).inv, F.mul_inv hp, F.mul_one, F.add_self]
    · rw [hu c (by omega) i hi, if_neg (by omega), F.mul_zero, F.mul_zero, F.add_zero]
      exact hu c (by omega) r hr
theorem un_swap {n : Nat} {m : List (List Nat)} (hm : Mt n n m) {i k : Nat} (hik : i ≤ k) (hk : k < n) (hu : Un n i m) : Un n i (swapM m i k) := by
  intro c hc r hr
  rw [swap_ent hm (by omega) hk]
  by_cases h1 : r = i
  · rw [if_pos h1, hu c hc k hk, if_neg (by omega), if_neg (by omega)]
  · rw [if_neg h1]
    by_cases h2 : r = k
    · rw [if_pos h2, hu c hc i (by omega), if_neg (by omega), if_neg (by omega)]
    · rw [if_neg h2]; exact hu c hc r hr
theorem pivF_none (m : List (List Nat)) (col : Nat) : ∀ f i, pivF m col i f = none → ∀ r, i ≤ r → r < i + f → (rw m r).getD col 0 = 0 := by
  intro f
  induction f with
  | zero => intro i _ r h1 h2; omega
  | succ f ih =>
    intro i h r h1 h2
    unfold pivF at h
    split at h
    · simp at h
    · rename_i h3
      by_cases hr : r = i
      · rw [hr]; simpa using h3
      · exact ih (i + 1) h r (by omega) (by omega)
theorem un_ker {n : Nat} {m : List (List Nat)} {i : Nat} (hi : i < n) (hu : Un n i m) (h0 : ∀ r, i ≤ r → r < n → ent m r i = 0) (r : Nat) (hr : r < n) : dt n (ent m r) (fun c => if c < i then ent m c i else if c = i then 1 else 0) = 0 := by
  unfold dt
  by_cases h : r < i
  · have e : ∀ c, c < n → ent m r c * (if c < i then ent m c i else if c = i then 1 else 0) = (if c = r then ent m r i else 0) + (if c = i then ent m r i else 0) := by
      intro c hc
      by_cases h1 : c < i
      · rw [if_pos h1, hu c h1 r hr, if_neg (show ¬ c = i by omega), F.add_zero]
        by_cases h2 : r = c
        · rw [if_pos h2, if_pos h2.symm, F.one_mul, h2]
        · rw [if_neg h2, if_neg (fun g => h2 g.symm), F.zero_mul]
      · rw [if_neg h1, if_neg (show ¬ c = r by omega), F.zero_add]
        by_cases h2 : c = i
        · rw [if_pos h2, if_pos h2, F.mul_one, h2]
        · rw [if_neg h2, if_neg h2, F.mul_zero]
    rw [sm_congr e, sm_add, sm_one r (by omega) fun c _ hc => if_neg hc, sm_one i hi fun c _ hc => if_neg hc, if_pos rfl, if_pos rfl, F.add_self]
  · refine sm_zero' fun c hc => ?_
    show ent m r c * (if c < i then ent m c i else if c = i then 1 else 0) = 0
    by_cases h1 : c < i
    · rw [if_pos h1, hu c h1 r hr, if_neg (by omega), F.zero_mul]
    · rw [if_neg h1]
      by_cases h2 : c = i
      · rw [h2, h0 r (by omega) hr, F.zero_mul]
      · rw [if_neg h2, F.mul_zero]
theorem ent_id {n i j : Nat} (hi : i < n) (hj : j < n) : ent (idM n) i j = if i = j then 1 else 0 := by
  unfold ent idM
  rw [genM_rw hi, List.getD_eq_getElem?_getD, tab_get hj]
  unfold idF
  by_cases h : i = j
  · rw [if_pos h, if_pos h]; rfl
  · rw [if_neg h, if_neg h]; rfl
theorem dt_unit {n i : Nat} (hi : i < n) {r : Nat → F} (h : ∀ j, j < n → r j = if i = j then 1 else 0) (v : Nat → F) : dt n r v = v i := by
  unfold dt
  rw [sm_one i hi fun j hj hji => by rw [h j hj, if_neg (fun g => hji g.symm), F.zero_mul], h i hi, if_pos rfl, F.one_mul]
/-- Only nought is turned into nought. -/
def Reg (n : Nat) (m : List (List Nat)) : Prop := ∀ v : Nat → F, (∀ i, i < n → dt n (ent m i) v = 0) → ∀ i, i < n → v i = 0
theorem invS_ok {n : Nat} {m : List (List Nat)} (hm : Mt n n m) (hr : Reg n m) : ∀ i, i ≤ n → ∃ p, invS n (m, idM n) i = some p ∧ Mt n n p.1 ∧ Mt n n p.2 ∧ Un n i p.1 ∧ ∀ v w, Sol n p v w ↔ Sol n (m, idM n) v w
  | 0, _ => ⟨_, rfl, hm, genM_mt (fun i j => by unfold idF; split <;> omega), fun c hc => by omega, fun _ _ => Iff.rfl⟩
  | i + 1, hi => by
    obtain ⟨p, hp, h1, h2, hu, hs⟩ := invS_ok hm hr i (by omega)
    rw [invS, hp]
    cases hpv : pivF p.1 i i (n - i) with
    | none =>
      exfalso
      have h0 : ∀ r, i ≤ r → r < n → ent p.1 r i = 0 := fun r g1 g2 => by
        unfold ent
        rw [pivF_none p.1 i (n - i) i hpv r g1 (by omega), toF_zero]
      have hz : Sol n p (fun c => if c < i then ent p.1 c i else if c = i then 1 else 0) (fun _ => 0) := fun r hr => by
        rw [un_ker (by omega) hu h0 r hr]
        exact (sm_zero' fun j _ => F.mul_zero _).symm
      have hz2 := (hs _ _).1 hz
      have h3 := hr _ (fun r hr => (hz2 r hr).trans (sm_zero' fun j _ => F.mul_zero _)) i (by omega)
      rw [if_neg (by omega), if_pos rfl] at h3
      exact F.one_ne h3
    | some k =>
      obtain ⟨g1, g2, g3⟩ := pivF_lt _ _ _ _ _ hpv
      have hk : k < n := by omega
      have m1 : Mt n n (swapM p.1 i k) := swapM_mt h1 (by omega) hk
      have m2 : Mt n n (swapM p.2 i k) := swapM_mt h2 (by omega) hk
      have hpi : ent (swapM p.1 i k) i i ≠ 0 := by
        rw [swap_ent h1 (by omega) hk, if_pos rfl]
        intro g
        have g4 := toF_inj ((h1.rowOct hk).at i) (show (0 : Nat) < 256 by omega) (g.trans toF_zero.symm)
        exact g3 g4
      obtain ⟨s1, s2⟩ := scl_mt (col := i) (p := (swapM p.1 i k, swapM p.2 i k)) m1 m2 (show i < n by omega)
      obtain ⟨c1, c2⟩ := clr_mt (col := i) s1 s2 (show i < n by omega) n (Nat.le_refl _)
      refine ⟨clrM n i i (swapM p.1 i k, swapM p.2 i k), by simp only [invStep, hpv], c1, c2, un_clr m1 m2 (by omega) hpi (un_swap h1 g1 hk hu), fun v w => ?_⟩
      exact ((sol_clr m1 m2 (by omega) hpi v w).trans (sol_swap h1 h2 (by omega) hk v w)).trans (hs v w)
theorem invM_ok {n : Nat} {m : List (List Nat)} (hm : Mt n n m) (hr : Reg n m) : ∃ q, invM n m = some q ∧ Mt n n q ∧ ∀ v w : Nat → F, (∀ i, i < n → v i = dt n (ent q i) w) ↔ ∀ i, i < n → dt n (ent m i) v = w i := by
  obtain ⟨p, hp, h1, h2, hu, hs⟩ := invS_ok hm hr n (Nat.le_refl _)
  refine ⟨p.2, by simp only [invM, hp, Option.map_some], h2, fun v w => ?_⟩
  have e1 : ∀ i, i < n → dt n (ent p.1 i) v = v i := fun i hi => dt_unit hi (fun j hj => hu j hj i hi) v
  have e2 : ∀ i, i < n → dt n (ent (idM n) i) w = w i := fun i hi => dt_unit hi (fun j hj => ent_id hi hj) w
  constructor
  · intro h
    have g := (hs v w).1 fun i hi => (e1 i hi).trans (h i hi)
    intro i hi
    exact (g i hi).trans (e2 i hi)
  · intro h
    have g := (hs v w).2 fun i hi => (h i hi).trans (e2 i hi).symm
    intro i hi
    exact (e1 i hi).symm.trans (g i hi)
end Go.Proofs.Ytjgnngnknhkpmaa
