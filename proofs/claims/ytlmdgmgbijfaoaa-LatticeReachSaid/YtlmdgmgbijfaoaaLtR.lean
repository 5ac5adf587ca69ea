/-
  LatticeReach: which nodes are found, and how. Conditions: named in each theorem.
-/
import Derived.Test.YtlmdgmgbijfaoaaLtH
set_option linter.unusedVariables false
set_option linter.unusedSimpArgs false
namespace Go.Proofs.Ytlmdgmgbijfaoaa
open Go.RowKit Go.Bas Go.ChangeShapes Go.Maps
attribute [local go_sem ↓] Go.wp_at_zero Go.wp_at_succ
set_option maxRecDepth 100000 in
set_option maxHeartbeats 1600000 in
theorem latticeReach_law (w : World) (v0 : Value) (L : List (Int × Int)) (hv0 : Mat w v0 L.length 2 (pv L)) (hL : ∀ e, e ∈ L → okI e.1 ∧ okI e.2) (v1 : Value) (fr : List Int) (hv1 : Mat w v1 fr.length 1 (lv kvI fr)) (hfr : ∀ x, x ∈ fr → okI x) (to : Int) (wto : (Lit.int .i64 to).wf = true) :
    Calls Try.prog 9 #[v0, v1, .int .i64 to] w fun e w' => e = .returned (.bool true) ∧ Below w.heap.size w w' := by
  obtain ⟨B, hB⟩ : ∃ x, x = w.heap.size := ⟨_, rfl⟩
  have HB := Lib.hid hB
  have HV0 := Lib.hid hv0
  have HV1 := Lib.hid hv1
  have HL := Lib.hid hL
  have HFR := Lib.hid hfr
  obtain ⟨a0, c0, rfl, hc0, hc0', hcell0⟩ := hv0
  obtain ⟨a1, c1, rfl, hc1, hc1', hcell1⟩ := hv1.one
  rw [← hB]
  clear hv1 hL hfr wto hcell0 hcell1 hB
  go_enter Try.func9, Try.ntmps9
  go_wp2_with fail
  refine (awake26 w).mono ?_
  rintro e w1 ⟨rfl, b1⟩
  have B1 : Hid (Below B w w1) := by rw [HB.out]; exact b1
  clear b1
  by_cases h40 : 40 < L.length
  · have h40' : (40 : Int) < L.length := by omega
    go_wp2
    go_ret
    exact ⟨rfl, B1.out⟩
  have h40' : ¬ (40 : Int) < L.length := by omega
  by_cases h20 : 20 < fr.length
  · have h20' : (20 : Int) < fr.length := by omega
    go_wp2
    go_ret
    exact ⟨rfl, B1.out⟩
  have h20' : ¬ (20 : Int) < fr.length := by omega
  have hol := onceL_len L
  have HLL := Lib.hid (show L.length ≤ 40 by omega)
  have HFL := Lib.hid (show fr.length ≤ 20 by omega)
  have HOL := Lib.hid (show (onceL L).length ≤ 40 by omega)
  clear hol h40 h20
  go_wp2_with fail
  refine (graph_any L _ w1 (HV0.out.below (HB.out ▸ B1.out)) HL.out (by have := HLL.out; omega)).mono ?_
  rintro e w2 ⟨p, F, rfl, hg, b2⟩
  have HG := Lib.hid hg
  have B2 := Lib.hid (laterB HB.out B1.out b2)
  clear hg b2
  go_wp2_with fail
  refine (onceR_any L _ w2 (HV0.out.below (HB.out ▸ B2.out)) (by have := HLL.out; omega)).mono ?_
  rintro e w3 ⟨vo, rfl, ho, _, b3⟩
  have HO := Lib.hid ho
  have G3 := Lib.hid (HG.out.below b3)
  have B3 := Lib.hid (laterB HB.out B2.out b3)
  obtain ⟨ao, co, rfl, _⟩ := ho.slice
  obtain ⟨E, hE⟩ : ∃ E, E = onceL L := ⟨_, rfl⟩
  rw [← hE] at HO G3 HOL ⊢
  clear ho b3 hE HG
  have HSB := Lib.hid (srch_bound E fr)
  have HNB := Lib.hid (nodesL_len E)
  go_wp2_with fail
  refine (lenI_any G3.out).mono ?_
  rintro e w4 ⟨rfl, b4⟩
  have G4 := Lib.hid (G3.out.below b4)
  have O4 := Lib.hid (HO.out.below b4)
  have B4 := Lib.hid (laterB HB.out B3.out b4)
  obtain ⟨ND, hND⟩ : ∃ l, l = nodesL E := ⟨_, rfl⟩
  rw [← hND] at HNB ⊢
  have HND := Lib.hid hND
  clear b4 hND
  go_wp2_with fail
  refine (searchR_any E _ w4 O4.out.mat (by have := HOL.out; omega) fr _ (HV1.out.below (HB.out ▸ B4.out)) (by have := HFL.out; omega)).mono ?_
  rintro e w5 ⟨va, vb, rfl, hs, b5⟩
  have S5 := Lib.hid hs
  have G5 := Lib.hid (G4.out.below b5)
  have O5 := Lib.hid (O4.out.below b5)
  have B5 := Lib.hid (laterB HB.out B4.out b5)
  obtain ⟨SA, hSA⟩ : ∃ l, l = (srch E fr).1 := ⟨_, rfl⟩
  have HA5 := Lib.hid hs.all
  obtain ⟨aa, ca, rfl, _⟩ := hs.all.slice
  obtain ⟨ab, cb, rfl, _⟩ := hs.by_.slice
  rw [← hSA] at HA5 HSB ⊢
  have HSA := Lib.hid hSA
  clear hs b5 hSA
  go_wp2_with fail
  refine (pathR_any E _ w5 O5.out.mat (by have := HOL.out; omega) to fr _ (HV1.out.below (HB.out ▸ B5.out)) (by have := HFL.out; omega)).mono ?_
  rintro e w6 ⟨vp, rfl, hp, b6⟩
  have HP := Lib.hid hp
  have G6 := Lib.hid (G5.out.below b6)
  have O6 := Lib.hid (O5.out.below b6)
  have A6 := Lib.hid (HA5.out.below b6)
  have B6 := Lib.hid (laterB HB.out B5.out b6)
  obtain ⟨ap, cp, rfl, _⟩ := hp.slice
  obtain ⟨OK, hOK⟩ : ∃ b, b = decide (to ∈ (srch E fr).1) := ⟨_, rfl⟩
  rw [← hOK]
  have HOK := Lib.hid hOK
  clear hp b6 hOK
  go_wp2_with fail
  refine (pathI_any G6.out to fr _ (HV1.out.below (HB.out ▸ B6.out)) HFR.out (by have := HFL.out; omega) (by have := HOL.out; omega)).mono ?_
  rintro e w7 ⟨vq, ok, rfl, hok, hq, b7⟩
  have HQ := Lib.hid hq
  have G7 := Lib.hid (G6.out.below b7)
  have O7 := Lib.hid (O6.out.below b7)
  have A7 := Lib.hid (A6.out.below b7)
  have P7 := Lib.hid (HP.out.below b7)
  have B7 := Lib.hid (laterB HB.out B6.out b7)
  obtain ⟨aq, cq, rfl, _⟩ := hq.slice
  obtain rfl : ok = OK := by rw [HOK.out]; cases ok with | true => exact (decide_eq_true (hok.1 rfl)).symm | false => exact (decide_eq_false fun h => by cases hok.2 h).symm
  obtain ⟨WT, hWT⟩ : ∃ l, l = wayTo (srch E fr) to := ⟨_, rfl⟩
  rw [← hWT] at HQ P7 ⊢
  have HWL : Hid (WT.length ≤ 1000000) := Lib.hid (by
    rw [hWT]; unfold wayTo; split
    · rw [List.length_reverse]
      refine Nat.le_trans (atP_len _ _) (Nat.le_trans (chn_len _ _ _) ?_)
      have := plc_lt ‹to ∈ (srch E fr).1›
      have := HSB.out
      have := HFL.out
      have := HOL.out
      have := HSA.out
      subst this
      omega
    · exact Nat.zero_le _)
  clear hq b7 hok hWT
  go_wp2_with fail
  refine (nodesR_any E _ w7 O7.out.mat (by have := HOL.out; omega)).mono ?_
  rintro e w8 ⟨vn, rfl, hn, _, b8⟩
  have G8 := Lib.hid (G7.out.below b8)
  have A8 := Lib.hid (A7.out.below b8)
  have P8 := Lib.hid (P7.out.below b8)
  have Q8 := Lib.hid (HQ.out.below b8)
  have B8 := Lib.hid (laterB HB.out B7.out b8)
  obtain ⟨an, cn, rfl, _⟩ := hn.slice
  rw [← HND.out]
  clear hn b8
  go_wp2_with fail
  refine (reachS G8.out fr SA HSA.out _ (HV1.out.below (HB.out ▸ B8.out)) HFR.out (by have := HFL.out; omega) (by have := HOL.out; omega)).mono ?_
  rintro e w9 ⟨vr, rfl, hr, _, b9⟩
  have R9 := Lib.hid hr
  have A9 := Lib.hid (A8.out.below b9)
  have P9 := Lib.hid (P8.out.below b9)
  have Q9 := Lib.hid (Q8.out.below b9)
  have B9 := Lib.hid (laterB HB.out B8.out b9)
  obtain ⟨ar, cr, rfl, _⟩ := hr.slice
  clear hr b9
  go_wp2_with fail
  refine (ints_any SA SA _ _ _ R9.out.mat A9.out.mat (by have := HSB.out; have := HFL.out; have := HOL.out; omega)).mono ?_
  rintro e w10 ⟨rfl, b10⟩
  rw [decide_eq_true rfl]
  have P10 := Lib.hid (P9.out.below b10)
  have Q10 := Lib.hid (Q9.out.below b10)
  have B10 := Lib.hid (laterB HB.out B9.out b10)
  clear b10
  go_wp2_with fail
  refine (ints_any WT WT _ _ _ Q10.out.mat P10.out.mat HWL.out).mono ?_
  rintro e w11 ⟨rfl, b11⟩
  rw [decide_eq_true rfl]
  have B11 := Lib.hid (laterB HB.out B10.out b11)
  clear b11
  go_wp2
  go_ret
  exact ⟨rfl, B11.out⟩
end Go.Proofs.Ytlmdgmgbijfaoaa
