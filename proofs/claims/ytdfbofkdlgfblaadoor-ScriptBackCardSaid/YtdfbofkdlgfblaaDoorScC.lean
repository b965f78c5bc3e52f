/- Numbers as texts: Number of the program. -/
import Derived.Test.YtdfbofkdlgfblaaDoorScB
import Derived.Deep.Cut
namespace Go.Proofs.YtdfbofkdlgfblaaDoor
open Go Go.RowKit
def by1 (l : List UInt8) : List Value := l.map (fun c => Value.int .u8 (c.toNat : Int))
theorem by1_snoc (l : List UInt8) (c : UInt8) : by1 (l ++ [c]) = by1 l ++ [.int .u8 (c.toNat : Int)] := by simp [by1]
theorem infoB : (Tryd.prog.info? 5).map (fun i => (i.zero, i.size, i.bytes)) = some (some (.int .u8 0), 1, 1) := by kernel_rfl
theorem newsB {w : World} {g : Nat} {xs : List Value} {T : TypeId} (h : Blk w g xs T) : ∀ ad, some (⟨g, 0, none⟩ : Addr) = some ad → ∀ j u, xs[j]? = some u → w.cell? (ad.add j) = some u := by
  intro ad ha j u hu
  simp only [Option.some.injEq] at ha
  subst ha
  rw [Addr.add_mid]
  simp only [Nat.zero_add]
  exact h.cell hu
/-- What is left of the number, and its digits so far. -/
def PgI (N m : Nat) (out : List UInt8) : Prop := out ++ rd m = rd N
theorem PgI.next {N m : Nat} {out : List UInt8} (h : PgI N m out) (hm : m ≠ 0) : PgI N (m / 10) (out ++ [UInt8.ofNat (48 + m % 10)]) := by
  unfold PgI at *
  rw [← h, rd_pos hm]
  simp
theorem PgI.done {N : Nat} {out : List UInt8} (h : PgI N 0 out) : out = rd N := by
  unfold PgI at h
  rw [rd_zero, List.append_nil] at h
  exact h
theorem PgI.len {N m : Nat} {out : List UInt8} (h : PgI N m out) (hN : N ≤ 9223372036854775808) : out.length ≤ 19 := by
  have h1 := rd_len 19 N (by omega)
  unfold PgI at h
  rw [← h, List.length_append] at h1
  omega
theorem max_dig (m : Nat) : max ((m : Int) % 10) (-((m : Int) % 10)) = ((m % 10 : Nat) : Int) := by omega
theorem own_blk1 {w : World} {base : Nat} {T : TypeId} {v : Value} {n : Nat} {xs : List Value} (h : w.ownsRow base T 1 v n xs) (hn : 0 < n) : ∃ g cap cur, v = .slice (some ⟨g, 0, none⟩) n cap ∧ base ≤ g ∧ Blk w g cur T ∧ cur.take n = xs ∧ n ≤ cur.length := by
  rcases h.2 with ⟨_, h0⟩ | ⟨g, cap, cur, rfl, hb, hg, hnc, hcm, hcs, htake⟩
  · omega
  · exact ⟨g, cap, cur.toList, rfl, hb, hg, by simpa using htake, by simp at hcs ⊢; omega⟩
/-- A byte of a text, as a cell. -/
def bv (l : List UInt8) (x : Nat) : Value := .int .u8 ((l.getD x 0).toNat : Int)
/-- Where a byte comes from, behind j exchanges. -/
def sw (n j x : Nat) : Nat := if x < j ∨ n - j ≤ x then n - 1 - x else x
structure Rv (l : List UInt8) (n j : Nat) (xs : List Value) : Prop where
  le : n ≤ xs.length
  at_ : ∀ x, x < n → xs[x]? = some (bv l (sw n j x))
theorem Rv.start {l : List UInt8} {n : Nat} {xs : List Value} (hn : l.length = n) (hx : xs.take n = by1 l) (hle : n ≤ xs.length) : Rv l n 0 xs := by
  refine ⟨hle, fun x hxn => ?_⟩
  have e : sw n 0 x = x := by unfold sw; rw [if_neg (by omega)]
  rw [e]
  have h1 : (xs.take n)[x]? = xs[x]? := by rw [List.getElem?_take_of_lt hxn]
  rw [← h1, hx]
  unfold by1 bv
  rw [List.getElem?_map, List.getElem?_eq_getElem (by omega)]
  simp [List.getD, hn, hxn]
theorem Rv.swap {l : List UInt8} {n j : Nat} {xs : List Value} (h : Rv l n j xs) (hj : j < n - 1 - j) : Rv l n (j + 1) ((xs.set j (bv l (n - 1 - j))).set (n - 1 - j) (bv l j)) := by
  refine ⟨by simp; exact h.le, fun x hxn => ?_⟩
  have hle := h.le
  by_cases h1 : x = n - 1 - j
  · subst h1
    rw [List.getElem?_set_self (by simp; omega)]
    have e : sw n (j + 1) (n - 1 - j) = j := by unfold sw; rw [if_pos (by omega)]; omega
    rw [e]
  · rw [List.getElem?_set_ne (by omega)]
    by_cases h2 : x = j
    · subst h2
      rw [List.getElem?_set_self (by omega)]
      have e : sw n (x + 1) x = n - 1 - x := by unfold sw; rw [if_pos (by omega)]
      rw [e]
    · rw [List.getElem?_set_ne (by omega), h.at_ x hxn]
      have e : sw n (j + 1) x = sw n j x := by
        unfold sw
        by_cases h3 : x < j ∨ n - j ≤ x
        · rw [if_pos h3, if_pos (by omega)]
        · rw [if_neg h3, if_neg (by omega)]
      rw [e]
theorem Rv.cell_j {l : List UInt8} {n j : Nat} {xs : List Value} (h : Rv l n j xs) (hj : j < n - 1 - j) : xs[j]? = some (bv l j) ∧ xs[n - 1 - j]? = some (bv l (n - 1 - j)) := by
  have e1 : sw n j j = j := by unfold sw; rw [if_neg (by omega)]
  have e2 : sw n j (n - 1 - j) = n - 1 - j := by unfold sw; rw [if_neg (by omega)]
  have h1 := h.at_ j (by omega)
  have h2 := h.at_ (n - 1 - j) (by omega)
  rw [e1] at h1
  rw [e2] at h2
  exact ⟨h1, h2⟩
theorem Rv.done {l : List UInt8} {n j : Nat} {xs : List Value} (h : Rv l n j xs) (hn : l.length = n) (hj : ¬ j < n - 1 - j) (h2j : 2 * j ≤ n) : ∀ x (hx : x < l.reverse.length), xs[x]? = some (.int .u8 ((l.reverse[x]).toNat : Int)) := by
  intro x hx
  simp only [List.length_reverse] at hx
  rw [h.at_ x (by omega)]
  have e : sw n j x = n - 1 - x := by
    unfold sw
    by_cases h3 : x < j ∨ n - j ≤ x
    · rw [if_pos h3]
    · rw [if_neg h3]; omega
  rw [e]
  unfold bv
  rw [List.getElem_reverse]
  subst hn
  rw [← List.getElem_eq_getD (h := show l.length - 1 - x < l.length by omega)]
/-- A row of bytes, as a text. -/
theorem conv_rev {W : World} {g cap n : Nat} {xs : List Value} {out : List UInt8} (hb : Blk W g xs 5) (hr : ∀ x (_ : x < out.reverse.length), xs[x]? = some (.int .u8 ((out.reverse[x]).toNat : Int))) (hn : out.length = n) : (convert 60 9 (.slice (some ⟨g, 0, none⟩) n cap)).run Tryd.prog W = .ok (txt out.reverse) W := by
  have h := run_convert_bytes_back (P := Tryd.prog) W 60 9 5 ⟨g, 0, none⟩ cap out.reverse Tryd.underlying60 Tryd.underlying5 Tryd.underlying9 (fun j hj => by
    rw [Addr.add_mid]
    simp only [Nat.zero_add]
    exact hb.cell (hr j hj))
  rw [List.length_reverse, hn] at h
  exact h
set_option maxRecDepth 100000 in
set_option maxHeartbeats 6400000 in
theorem num_pos (N : Nat) (w : World) (hN : N ≤ 9223372036854775807) (h0 : N ≠ 0) :
    Calls Tryd.prog 9 #[.int .i64 (N : Int)] w fun e w' => e = .returned (txt (digs N)) ∧ Kept [] w w' := by
  have HN := hx (And.intro hN h0)
  have hn0 : ((N : Int) == 0) = false := by simp; omega
  have hnn : ¬ (N : Int) < 0 := by omega
  clear hN h0
  go_enter Tryd.func9, Tryd.ntmps9
  go_wp2_with fail
  go_loopw [3, 4] (fun sv mv wr => ∃ (m : Nat) (out : List UInt8) (u : Value), m ≤ N ∧ mv = .int .i64 (m : Int) ∧ u = sv ∧ PgI N m out ∧ wr.ownsRow w.heap.size 5 1 u out.length (by1 out) ∧ Kept [] w wr) (fun _ mv _ => (intOf mv).toNat)
  case atStart => exact ⟨N, [], _, Nat.le_refl _, rfl, rfl, by unfold PgI; rfl, World.ownsRow_nil _ _ _ _, Kept.refl _ _⟩
  case round =>
    obtain ⟨m, out, u, hm, rfl, hu, hi, ho, hk⟩ := hrel
    subst hu
    have HI := hx hi
    have HO := hx ho
    have HK := hx hk
    have HM := hx hm
    have hlen := hi.len (by have := HN.out.1; omega)
    have HLN := hx hlen
    by_cases hz : m = 0
    · subst hz
      have hmz : (((0 : Nat) : Int) != 0) = false := rfl
      have hdone := hi.done
      have hpos : 0 < out.length := by
        rw [hdone, rd_pos HN.out.2]
        simp
      obtain ⟨g, cap, cur, rfl, hbg, hB, htk, hle⟩ := own_blk1 ho hpos
      have HB := hx hB
      have HV := hx (Rv.start (l := out) (n := out.length) rfl htk hle)
      have HG := hx (And.intro hbg hB.lt)
      have HD := hx hdone
      have HPO := hx hpos
      have hwl : IntKind.i64.wrap ((out.length : Int) - 1) = (out.length : Int) - 1 := by rw [IntKind.wrap_i64]; omega
      clear hi ho hk hm hB htk hle HO hdone hpos HI HM hbg
      generalize hL : out.length = n at *
      have HL := hx hL
      clear hL
      go_upto_region 11 with fail
      have HLE := hx hlen
      have hn19 : n ≤ 19 := by have h := HL.out; omega
      go_loopw [5, 6] (fun iv kv wx => ∃ (j K : Nat) (xs : List Value), K = n - 1 - j ∧ 2 * j ≤ n ∧ iv = .int .i64 (j : Int) ∧ kv = .int .i64 (K : Int) ∧ Rv out n j xs ∧ Blk wx g xs 5 ∧ Kept [] w wx) (fun _ kv _ => (intOf kv).toNat)
      case atStart =>
        refine ⟨0, n - 1, cur, rfl, by omega, rfl, ?_, HV.out, HB.out, HK.out⟩
        have h := HPO.out
        congr 1
        omega
      case round =>
        clear HV HB
        obtain ⟨j, K, xs, hK, h2j, rfl, rfl, hv, hb, hk⟩ := hrel
        have HVV := hx hv
        have HBB := hx hb
        have HKK := hx hk
        have HKE := hx hK
        by_cases hlt : j < K
        · have hjk : (j : Int) < (K : Int) := by omega
          obtain ⟨e1, e2⟩ := hv.cell_j (by omega)
          rw [← hK] at e2
          have cj := hb.cell e1
          have ck := hb.cell e2
          have hf := hb.free
          have hjn : (j : Int) < (n : Int) := by omega
          have hkn : (K : Int) < (n : Int) := by omega
          have hj0 : (0 : Int) ≤ (j : Int) := by omega
          have hk0 : (0 : Int) ≤ (K : Int) := by omega
          have HS := hx (hv.swap (by omega))
          rw [← hK] at HS
          have HLT := hx hlt
          unfold bv at cj ck
          go_upto_region 13 with fail
          clear hv hb hk hK e1 e2
          have wj : IntKind.i64.wrap ((j : Int) + 1) = ((j + 1 : Nat) : Int) := by have h := HLT.out; rw [IntKind.wrap_i64]; omega
          have wk : IntKind.i64.wrap ((K : Int) - 1) = ((K - 1 : Nat) : Int) := by have h := HLT.out; rw [IntKind.wrap_i64]; omega
          go_region
          go_wp2_with fail
          go_roundw
          case rel =>
            have h := HLT.out
            have h2 := HKE.out
            refine ⟨j + 1, K - 1, _, by omega, by omega, by congr 1, rfl, HS.out, ((HBB.out.set j _).set K _).drew, ((HKK.out.setCell (.inr HG.out.1) _).setCell (.inr HG.out.1) _).drew⟩
          case measure =>
            simp only [intOf]
            have h := HLT.out
            omega
        · have hjk : ¬ (j : Int) < (K : Int) := by omega
          have hcv := conv_rev (cap := cap) hb (hv.done HL.out (by omega) h2j) HL.out
          clear hv hb hk hK h2j
          go_wp2_with fail
          go_ret
          refine ⟨?_, HKK.out⟩
          unfold digs
          rw [if_neg HN.out.2, ← HD.out]
          rfl
    · have hmz : ((m : Int) != 0) = true := by simp; omega
      have HC := hx (dig_toNat (d := m % 10) (Nat.mod_lt _ (by omega)))
      have HNX := hx (hi.next hz)
      obtain ⟨c, hc⟩ : ∃ c, c = UInt8.ofNat (48 + m % 10) := ⟨_, rfl⟩
      rw [← hc] at HC HNX
      have HCE := hx (show (c.toNat : Int) = 48 + (m : Int) % 10 by have h := HC.out; omega)
      have hw : wrap64 ((m : Int) / 10) = ((m / 10 : Nat) : Int) := by have h := HM.out; have h2 := HN.out; unfold wrap64; omega
      have HLT := hx (show m / 10 < m by omega)
      clear hi ho hk hm hc hlen hz
      go_wp2_with (at_builtin; refine wpList_app rfl (.tmp 14) (.tmp 23) 60 rfl w.heap.size 5 (.int .u8 0) 1 1 infoB Tryd.underlying60 rfl (by omega) u out.length (by1 out) rfl (World.ownsRow.alloc HO.out _) (some ⟨_, 0, none⟩) 1 1 [.int .u8 (48 + (m : Int) % 10)] rfl rfl (by simp) (by omega) (newsB (Blk.new _ [.int .u8 (48 + (m : Int) % 10)] 5)) (by intro v hv; simp at hv; subst hv; rfl) (by have := HLN.out; simp [maxLen]; omega) (by have := HLN.out; omega) (by have h1 := HK.out.size; simp; omega) ?_; intro u2 w8 ho8 hg8; have HO8 := hx ho8; have HK8 := hx ((HK.out.alloc _).grown hg8 (fun q hq => .inr (HO.out.lt q hq).1)); clear ho8 hg8)
      go_roundw
      case rel => exact ⟨m / 10, out ++ [c], u2, by have h := HM.out; omega, by rw [hw], rfl, HNX.out, by rw [by1_snoc, List.length_append, HCE.out]; exact HO8.out, HK8.out⟩
      case measure =>
        rw [hw]
        simp only [intOf]
        have h := HLT.out
        omega
end Go.Proofs.YtdfbofkdlgfblaaDoor
