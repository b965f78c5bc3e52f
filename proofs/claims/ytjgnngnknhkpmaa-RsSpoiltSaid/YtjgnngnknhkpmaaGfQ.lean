/- The field's tables, packed; the document's product is the program's. -/
import Derived.Test.YtjgnngnknhkpmaaRefM
namespace Go.Proofs.Ytjgnngnknhkpmaa
open Go
def eP : Nat := 70160881166704368827218703435136616750530459438269794890424969378298545675077208731798828898087927652446353395360628748027273188182808436399538186061104243134188885576122562338679313492324190829158544377810568631194580132524405266702234305646236648896994794467054525044798919765581988418950285252905306116225263236585714808161311289784028762024137133735135393922581566890382566480334369299400480864790538739986285574563168380416343369614948461817839620668187777978661530364712890858126432457562886306102556561631759900551331094983229723298224611133722330829711659991602983068895685602467964643306841827719562658305
def lP : Nat := 22135253156888987530748098150270024343632497605293634117281264061560962248099620766229961468867162294233796152347975563017024165690400661622462404646302566225833645086064538892198543335321514950294300187779610338557442029018619797274438901674641748676613670242915365385819254959901651105240253464034662486586186382979728982817772067067513442677601938078891989292316012868233806586592927239821351197800766822366321181463280924672822998103315976779850880337712374790938628529953751181886374687897611504386983350015558142994211516619836411558782076806704747441947939324473761869443721989389604670425385080942269787340800
def ep (i : Nat) : Nat := (eP >>> (8 * i)) % 256
def lp (v : Nat) : Nat := (lP >>> (8 * v)) % 256
def gmP (a b : Nat) : Nat := if a == 0 || b == 0 then 0 else ep ((lp a + lp b) % 255)
theorem ep_step : ∀ i, i < 254 → ep (i + 1) = gs (ep i) := by decide +kernel
theorem ep_gw : ∀ i, i < 255 → ep i = gw i
  | 0, _ => by decide +kernel
  | i + 1, h => by rw [ep_step i (by omega), ep_gw i (by omega), gw_step]
theorem lp_lt : ∀ v, v < 256 → 0 < v → lp v < 255 ∧ ep (lp v) = v := by decide +kernel
theorem lp_ep : ∀ i, i < 255 → lp (ep i) = i := by decide +kernel
theorem gw_inj {i j : Nat} (hi : i < 255) (hj : j < 255) (h : gw i = gw j) : i = j := by
  rw [← ep_gw i hi, ← ep_gw j hj] at h
  have h1 := lp_ep i hi
  rw [h, lp_ep j hj] at h1
  exact h1.symm
theorem logF_gw (i : Nat) (hi : i < 255) : ∀ n, n ≤ 255 → i < n → logF n (gw i) = i
  | 0, _, h => by omega
  | n + 1, hn, h => by
    unfold logF
    by_cases he : gw n = gw i
    · rw [if_pos he]; exact gw_inj (by omega) hi he
    · rw [if_neg he]
      exact logF_gw i hi n (by omega) (by
        rcases Nat.lt_or_ge i n with g | g
        · exact g
        · exact absurd (by rw [show n = i by omega]) he)
theorem glog_lp (v : Nat) (hv : v < 256) (h0 : 0 < v) : glog v = lp v := by
  obtain ⟨h1, h2⟩ := lp_lt v hv h0
  have h3 : v = gw (lp v) := by rw [← ep_gw _ h1]; exact h2.symm
  have h4 := logF_gw (lp v) h1 255 (Nat.le_refl _) h1
  unfold glog
  rw [← h3] at h4
  exact h4
theorem gmul_gmP (a b : Nat) (ha : a < 256) (hb : b < 256) : gmul a b = gmP a b := by
  unfold gmul gmP
  by_cases h : a = 0 ∨ b = 0
  · rw [if_pos h, if_pos (by simpa using h)]
  · rw [if_neg h, if_neg (by simpa using h), glog_lp a ha (by omega), glog_lp b hb (by omega), ep_gw _ (Nat.mod_lt _ (by omega))]
end Go.Proofs.Ytjgnngnknhkpmaa
