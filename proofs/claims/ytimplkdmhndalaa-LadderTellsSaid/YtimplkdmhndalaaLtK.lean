/- The document's New. -/
import Derived.Test.YtimplkdmhndalaaLtJ
namespace Go.Proofs.Ytimplkdmhndalaa
open Go Go.RowKit Go.Shelf
theorem infoRl : (Try.prog.info? 44).map (fun i => (i.zero, i.size, i.bytes)) = some (some (.agg #[.string ByteArray.empty, .int .i64 0, .int .i64 0, .int .i64 0, .int .i64 0]), 5, 48) := by kernel_rfl
def RNewQ (o : Option (List Ply)) (w : World) (e : Ending) (w' : World) : Prop := Kept [] w w' ∧ match o with
  | none => ∃ v, e = .returned (.tuple #[v, .bool false]) ∧ ∃ a n c, v = .slice a n c
  | some h => ∃ a c, e = .returned (.tuple #[.slice a h.length c, .bool true]) ∧ h.length ≤ c ∧ R5 w' a h ∧ ∀ g o, a = some (⟨g, o, none⟩ : Addr) → w.heap.size ≤ g
set_option maxRecDepth 100000 in
set_option maxHeartbeats 12800000 in
theorem rnew_any (a : Option Addr) (c : Nat) (l : List (List UInt8)) (w : World) (hl : NmR w a l) (h60 : l.length ≤ 60) :
    Calls Try.prog 6 #[.slice a l.length c] w fun e w' => RNewQ (newP l) w e w' := by
  have HNP := hx (show newP l = if l.length < 2 ∨ 32 < l.length then none else addN [] l from rfl)
  obtain ⟨p, hp⟩ : ∃ p, newP l = p := ⟨_, rfl⟩
  rw [hp] at HNP ⊢
  obtain ⟨o, ho⟩ : ∃ o, addN [] l = o := ⟨_, rfl⟩
  rw [ho] at HNP
  have HO := hx ho
  have HL := hx hl
  generalize hm : l.length = n at *
  have HM := hx hm
  clear hl ho hm hp
  go_enter Try.func6, Try.ntmps6
  go_wp2_with fail
  go_loopw [4, 5] (fun ov iv wr => ∃ (i : Nat) (out : List Ply) (v : Value), ov = v ∧ iv = .int .i64 (i : Int) ∧ i ≤ n ∧ Hx (addN out (l.drop i) = o) ∧ out.length = i ∧ wr.ownsRow w.heap.size 44 5 v out.length (cel out) ∧ Kept [] w wr) (fun _ iv _ => n - (intOf iv).toNat)
  case atStart => exact ⟨0, [], _, rfl, rfl, Nat.zero_le _, HO, rfl, World.ownsRow_nil _ _ _ 5, Kept.refl _ _⟩
  case round =>
    obtain ⟨i, out, v, rfl, rfl, hi, hA, hol, hN, hk⟩ := hrel
    have HN := hx hN
    have HK := hx hk
    have HOL := hx hol
    clear hN hol hk
    by_cases hlt : i < n
    · have hil : (i : Int) < (n : Int) := by omega
      have hi100 : (i : Int) < 100 := by omega
      obtain ⟨x, hxx⟩ : ∃ x, l[i]? = some x := ⟨_, List.getElem?_eq_getElem (by have := HM.out; omega)⟩
      obtain ⟨g, o9, rfl, _, hcl⟩ := (HL.out.kept HK.out).at_ i x hxx
      obtain ⟨hnl, va, vc, rfl, _, hr5⟩ := own_r5 HN.out
      have HF := hx (rfind_any va vc out x wr hr5 (by have := HOL.out; omega))
      have hdr : l.drop i = x :: l.drop (i + 1) := by
        obtain ⟨h1, h2⟩ := List.getElem?_eq_some_iff.1 hxx
        rw [List.drop_eq_getElem_cons h1, h2]
      have HLT := hx hlt
      have HG9 := hx (World.block_lt_of_cell? _ _ hcl)
      rw [hdr, addN] at hA
      clear hxx hdr hlt hi hnl hr5
      cases hp : plAt x out with
      | some j =>
        rw [hp] at hA
        have hfj : plV x out = (j : Int) := by unfold plV; rw [hp]
        rw [hfj] at HF
        have HON := hx hA.out.symm
        clear hA hp hfj
        generalize out.length = m at *
        go_wp2_with (go_at_call 11; refine HF.out.mono ?_; rintro e w1 ⟨rfl, rfl⟩)
        go_ret2
        have hpn : p = none := by rw [HNP.out, HON.out]; split <;> rfl
        rw [hpn]
        exact ⟨HK.out, _, rfl, _, _, _, rfl⟩
      | none =>
        rw [hp] at hA
        have hfj : plV x out = -1 := by unfold plV; rw [hp]
        rw [hfj] at HF
        clear hp hfj
        have h60o : out.length < 60 := by have := HOL.out; have := HLT.out; omega
        have HO60 := hx h60o
        generalize hlo : out.length = m at *
        have HLO := hx hlo
        clear hlo
        go_wp2_with (first
          | (go_at_call 11; refine HF.out.mono ?_; rintro e w1 ⟨rfl, rfl⟩)
          | (at_builtin; refine wpList_app rfl (.tmp 23) (.tmp 29) 29 rfl w.heap.size 44 (.agg #[.string ByteArray.empty, .int .i64 0, .int .i64 0, .int .i64 0, .int .i64 0]) 5 48 infoRl Try.underlying29 rfl (by omega) (.slice va m vc) m (cel out) rfl (World.ownsRow.alloc HN.out _) (some ⟨_, 0, none⟩) 1 1 (enc5 (mkN x)) rfl rfl (by simp) (by omega) (newsB (Blk.new _ (enc5 (mkN x)) 44)) (one_enc5 _) (by have := HO60.out; simp [maxLen]; omega) (by have := HO60.out; omega) (by have := HK.out.size; simp; omega) ?_; intro v8 w8 ho8 hg8; have HO8 := hx ho8; have HG8 := hx hg8; clear ho8 hg8))
        go_roundw
        case rel =>
          refine ⟨i + 1, out ++ [mkN x], v8, rfl, by push_cast; rfl, HLT.out, hA, by rw [List.length_append, HLO.out, HOL.out]; rfl, ?_, (HK.out.alloc _).grown HG8.out (fun j hj => .inr (HN.out.lt _ hj).1)⟩
          rw [List.length_append, HLO.out, cel_snoc]
          exact HO8.out
        case measure =>
          simp only [intOf]
          have h := HLT.out
          omega
    · have hie : i = n := by omega
      subst hie
      have hil : ¬ ((i : Int) < (i : Int)) := by omega
      rw [List.drop_of_length_le (by have := HM.out; omega), addN] at hA
      have HON := hx hA.out.symm
      obtain ⟨hnl, va, vc, rfl, hvc, hr5⟩ := own_r5 HN.out
      have HR5 := hx (And.intro hvc (And.intro hr5 (fun (g o : Nat) (e : va = some (⟨g, o, none⟩ : Addr)) => (HN.out.lt g (by rw [e]; rfl)).1)))
      rw [HOL.out]
      clear hA hi hlt hnl hr5 hvc HN
      by_cases hsz : i < 2 ∨ 32 < i
      · have hpn : p = none := by rw [HNP.out, if_pos hsz]
        have HPN := hx hpn
        clear hpn
        rcases hsz with h | h
        · have h1 : decide ((2 : Int) ≤ (i : Int)) = false := by simp; omega
          clear h
          go_wp2_with fail
          go_ret2
          rw [HPN.out]
          exact ⟨HK.out, _, rfl, _, _, _, rfl⟩
        · have h1 : decide ((2 : Int) ≤ (i : Int)) = true := by simp; omega
          have h2 : decide ((i : Int) ≤ 32) = false := by simp; omega
          clear h
          go_wp2_with fail
          go_ret2
          rw [HPN.out]
          exact ⟨HK.out, _, rfl, _, _, _, rfl⟩
      · have hpn : p = some out := by rw [HNP.out, if_neg hsz, HON.out]
        have HPN := hx hpn
        have h1 : decide ((2 : Int) ≤ (i : Int)) = true := by simp; omega
        have h2 : decide ((i : Int) ≤ 32) = true := by simp; omega
        clear hpn hsz
        go_wp2_with fail
        go_ret2
        rw [HPN.out]
        exact ⟨HK.out, va, vc, by rw [HOL.out]; rfl, HR5.out.1, HR5.out.2.1, HR5.out.2.2⟩
end Go.Proofs.Ytimplkdmhndalaa
