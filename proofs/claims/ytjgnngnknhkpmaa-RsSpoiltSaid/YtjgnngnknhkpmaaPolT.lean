/- Polynomials, their roots, and the weights of places. -/
import Derived.Test.YtjgnngnknhkpmaaGfS
namespace Go.Proofs.Ytjgnngnknhkpmaa
open Go
def ev : List F → F → F
  | [], _ => 0
  | c :: p, x => c + x * ev p x
def dv (a : F) : List F → List F
  | [] => []
  | [_] => []
  | _ :: d :: p => ev (d :: p) a :: dv a (d :: p)
theorem dv_len (a : F) : ∀ p : List F, (dv a p).length = p.length - 1
  | [] => rfl
  | [_] => rfl
  | _ :: d :: p => by
    have h := dv_len a (d :: p)
    rw [dv, List.length_cons, h]
    simp
theorem dv_ev (a x : F) : ∀ p : List F, ev p x = ev p a + (x + a) * ev (dv a p) x
  | [] => by simp [ev, dv, F.mul_zero, F.add_zero]
  | [c] => by simp [ev, dv, F.mul_zero, F.add_zero]
  | c :: d :: p => by
    have h := dv_ev a x (d :: p)
    rw [dv]
    show c + x * ev (d :: p) x = c + a * ev (d :: p) a + (x + a) * (ev (d :: p) a + x * ev (dv a (d :: p)) x)
    generalize ev (dv a (d :: p)) x = q at *
    generalize ev (d :: p) x = y at *
    generalize ev (d :: p) a = z at *
    rw [h]
    simp only [F.mul_add, F.add_mul]
    have e1 : x * (a * q) = a * (x * q) := by ac_rfl
    rw [e1]
    have e2 : a * z + a * z = 0 := F.add_self _
    calc c + (x * z + (x * (x * q) + a * (x * q))) = c + (x * z + (x * (x * q) + a * (x * q))) + 0 := (F.add_zero _).symm
      _ = c + (x * z + (x * (x * q) + a * (x * q))) + (a * z + a * z) := by rw [e2]
      _ = c + a * z + (x * z + a * z + (x * (x * q) + a * (x * q))) := by ac_rfl
theorem dv_null (a : F) : ∀ p : List F, ev p a = 0 → (∀ c ∈ dv a p, c = 0) → ∀ c ∈ p, c = 0
  | [], _, _, c, hc => by simp at hc
  | [d], h, _, c, hc => by
    have : c = d := by simpa using hc
    subst this
    rw [ev, ev, F.mul_zero, F.add_zero] at h
    exact h
  | b :: d :: p, h, hd, c, hc => by
    rw [dv] at hd
    have h1 : ev (d :: p) a = 0 := hd _ (by simp)
    have h2 := dv_null a (d :: p) h1 fun c hc => hd c (by simp [hc])
    rw [ev, h1, F.mul_zero, F.add_zero] at h
    rcases List.mem_cons.1 hc with g | g
    · rw [g, h]
    · exact h2 c g
/-- No more roots than the degree. -/
theorem roots : ∀ (l : List F) (p : List F), l.Nodup → (∀ a ∈ l, ev p a = 0) → p.length ≤ l.length → ∀ c ∈ p, c = 0
  | [], p, _, _, hl, c, hc => by
    have : p = [] := List.length_eq_zero_iff.1 (by simpa using hl)
    rw [this] at hc
    simp at hc
  | a :: l, p, hn, hr, hl, c, hc => by
    have h0 := hr a (by simp)
    refine dv_null a p h0 ?_ c hc
    refine roots l (dv a p) (List.nodup_cons.1 hn).2 (fun b hb => ?_) (by rw [dv_len]; simp at hl; omega)
    have h1 := hr b (by simp [hb])
    rw [dv_ev a b p, h0, F.zero_add] at h1
    have hab : b + a ≠ 0 := fun g => (List.nodup_cons.1 hn).1 (by rw [← F.eq_of_add g]; exact hb)
    exact F.mul_cancel hab (by rw [h1, F.mul_zero])
/-- Times (X + a). -/
def mx (a : F) : F → List F → List F
  | q, [] => [q]
  | q, c :: p => (q + a * c) :: mx a c p
theorem mx_len (a : F) : ∀ q p, (mx a q p).length = p.length + 1
  | _, [] => rfl
  | _, c :: p => by rw [mx, List.length_cons, mx_len a c p, List.length_cons]
theorem mx_ev (a x : F) : ∀ q p, ev (mx a q p) x = q + (x + a) * ev p x
  | q, [] => by simp [mx, ev, F.mul_zero, F.add_zero]
  | q, c :: p => by
    rw [mx, ev, mx_ev a x c p, ev]
    generalize ev p x = y
    simp only [F.mul_add, F.add_mul]
    have e1 : x * (a * y) = a * (x * y) := by ac_rfl
    rw [e1]
    ac_rfl
/-- The product over the places but one; x * a's place is at i. -/
def pr (x : F) (j : Nat) : Nat → List F → F
  | _, [] => 1
  | i, a :: l => if i = j then pr x j (i + 1) l else (x + a) * pr x j (i + 1) l
def pl (j : Nat) : Nat → List F → List F
  | _, [] => [1]
  | i, a :: l => if i = j then pl j (i + 1) l else mx a 0 (pl j (i + 1) l)
theorem pl_ev (x : F) (j : Nat) : ∀ i l, ev (pl j i l) x = pr x j i l
  | _, [] => by simp [pl, pr, ev, F.mul_zero, F.add_zero]
  | i, a :: l => by
    have h := pl_ev x j (i + 1) l
    rw [pl, pr]
    split
    · exact h
    · rw [mx_ev, h, F.zero_add]
theorem pl_len1 (j : Nat) : ∀ i l, j < i → (pl j i l).length = l.length + 1
  | _, [], _ => rfl
  | i, a :: l, h => by rw [pl, if_neg (by omega), mx_len, pl_len1 j (i + 1) l (by omega), List.length_cons]
theorem pl_len (j : Nat) : ∀ i l, i ≤ j → j < i + l.length → (pl j i l).length = l.length
  | i, [], h, h2 => by simp at h2; omega
  | i, a :: l, h, h2 => by
    rw [pl]
    split
    · rename_i h3
      rw [pl_len1 j (i + 1) l (by omega), List.length_cons]
    · rw [mx_len, pl_len j (i + 1) l (by omega) (by simp at h2; omega), List.length_cons]
theorem pr_null (x : F) (j : Nat) : ∀ i l q, i + q ≠ j → l[q]? = some x → pr x j i l = 0
  | _, [], q, _, h => by simp at h
  | i, a :: l, q, hq, h => by
    rw [pr]
    cases q with
    | zero =>
      have : a = x := by simpa using h
      rw [if_neg (by simpa using hq), this, F.add_self, F.zero_mul]
    | succ q =>
      have h1 := pr_null x j (i + 1) l q (by omega) (by simpa using h)
      split
      · exact h1
      · rw [h1, F.mul_zero]
theorem pr_ne (x : F) (j : Nat) : ∀ i l, (∀ q, i + q ≠ j → l[q]? ≠ some x) → pr x j i l ≠ 0
  | _, [], _ => F.one_ne
  | i, a :: l, h => by
    have h1 := pr_ne x j (i + 1) l fun q hq g => h (q + 1) (by omega) (by simpa using g)
    rw [pr]
    split
    · exact h1
    · rename_i h2
      refine F.mul_ne (fun g => ?_) h1
      exact h 0 (by simpa using h2) (by simp [F.eq_of_add g])
/-- The weight of the j-th of some places for another one. -/
def wt (l : List F) (j : Nat) (x : F) : F := pr x j 0 l * (pr (l.getD j 0) j 0 l).inv
theorem wt_uniq (l : List F) (hn : l.Nodup) (r : Nat → F) (x : F) (h : ∀ p : List F, p.length = l.length → (sm l.length fun j => r j * ev p (l.getD j 0)) = ev p x) (j : Nat) (hj : j < l.length) : r j = wt l j x := by
  have h1 := h (pl j 0 l) (pl_len j 0 l (by omega) (by omega))
  have hg : ∀ i, i < l.length → l[i]? = some (l.getD i 0) := fun i hi => by
    rw [List.getD_eq_getElem?_getD, List.getElem?_eq_getElem hi]; rfl
  rw [sm_one j hj fun i hi hij => by rw [pl_ev, pr_null _ j 0 l i (by omega) (hg i hi), F.mul_zero], pl_ev, pl_ev] at h1
  have h2 : pr (l.getD j 0) j 0 l ≠ 0 := pr_ne _ _ _ _ fun q hq g => by
    have hq2 : q < l.length := by
      rcases Nat.lt_or_ge q l.length with g2 | g2
      · exact g2
      · rw [List.getElem?_eq_none g2] at g; simp at g
    rw [hg q hq2] at g
    have g1 := Option.some.inj g
    rw [List.getD_eq_getElem?_getD, List.getD_eq_getElem?_getD, List.getElem?_eq_getElem hq2, List.getElem?_eq_getElem hj] at g1
    have hp := List.pairwise_iff_getElem.1 hn
    rcases Nat.lt_trichotomy q j with g2 | g2 | g2
    · exact hp q j hq2 hj g2 g1
    · omega
    · exact hp j q hj hq2 g2 g1.symm
  unfold wt
  rw [← h1, F.mul_assoc, F.mul_inv h2, F.mul_one]
/-- A polynomial by its coefficients. -/
def pw (a : F) : Nat → F
  | 0 => 1
  | n + 1 => a * pw a n
theorem ev_tab (x : F) : ∀ (n : Nat) (v : Nat → F), ev (tab n v) x = sm n fun j => pw x j * v j := by
  intro n
  induction n with
  | zero => intro v; rfl
  | succ n ih =>
    intro v
    have e : tab (n + 1) v = v 0 :: tab n fun i => v (i + 1) := by
      unfold tab
      rw [List.range_succ_eq_map, List.map_cons, List.map_map]
      rfl
    rw [e, ev, ih, sm_front, ← sm_mul, pw, F.one_mul]
    congr 1
    exact sm_congr fun i _ => by rw [pw, F.mul_assoc]
theorem toF_gpow (a : Nat) (ha : a < 256) : ∀ n, toF (gpow a n) = pw (toF a) n
  | 0 => by
    rw [show gpow a 0 = 1 from rfl]
    exact F.ext' (toF_v (by omega))
  | n + 1 => by
    have ih := toF_gpow a ha n
    rw [pw, ← ih]
    refine F.ext' ?_
    rw [F.mul_v, toF_v (gpow_lt _ _), toF_v (gpow_lt _ _), toF_v ha]
    unfold gpow
    rw [if_neg (by omega)]
    by_cases h0 : a = 0
    · rw [if_pos h0, h0, zero_gmul]
    · rw [if_neg h0]
      by_cases hn : n = 0
      · subst hn
        rw [if_pos rfl, gmul_comm, one_gmul _ ha]
        rw [show (0 + 1) % 255 = 1 from rfl, Nat.mul_one, ← gw_mod, gw_glog a ha (by omega)]
      · rw [if_neg hn, if_neg h0]
        have h1 := Nat.mod_lt (glog a * (n % 255)) (show 0 < 255 by omega)
        have h2 := gw_ok _ (show glog a * (n % 255) % 255 < 256 by omega)
        have e1 : gmul a (gw (glog a * (n % 255) % 255)) = gw ((glog a + glog a * (n % 255) % 255) % 255) := by
          rw [gmul.eq_def, if_neg (by omega), glog_gw _ h1]
        rw [e1]
        refine congrArg gw ?_
        rw [Nat.mul_mod_mod, Nat.mul_mod_mod, Nat.mul_add, Nat.mul_one, Nat.add_mod_mod, Nat.add_comm]
end Go.Proofs.Ytjgnngnknhkpmaa
