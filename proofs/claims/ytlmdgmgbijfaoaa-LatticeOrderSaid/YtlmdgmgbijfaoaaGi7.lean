/-
  Graphs of ints: a path. Conditions: named in each theorem.
-/
import Derived.Test.YtlmdgmgbijfaoaaGi6
set_option linter.unusedVariables false
set_option linter.unusedSimpArgs false
namespace Go.Proofs.Ytlmdgmgbijfaoaa
open Go.RowKit Go.Bas Go.ChangeShapes Go.Maps
attribute [local go_sem ↓] Go.wp_at_zero Go.wp_at_succ
section
variable {B : Nat} {w w' : World} {p : Nat} {F : Nat → Prop} {E : List (Int × Int)}
set_option maxRecDepth 100000 in
set_option maxHeartbeats 1600000 in
theorem pathI_any (h : GEI B w p F E) (to : Int) (fr : List Int) (v : Value) (hv : Mat w v fr.length 1 (lv kvI fr)) (hok : ∀ x, x ∈ fr → okI x) (hfr : fr.length ≤ 1000) (hE : E.length ≤ 1000) : Calls Try.prog 36 #[.pointer (some ⟨p, 0, none⟩), kvI to, v] w fun e w' => ∃ va b, e = .returned (.tuple #[va, .bool b]) ∧ (b = true ↔ to ∈ (srch E fr).1) ∧ OwM 3 1 w' va (wayTo (srch E fr) to).length (lv kvI (wayTo (srch E fr) to)) ∧ Below w.heap.size w w' := by
  have HS := Lib.hid (searchI_any h fr v hv hok hfr hE)
  obtain ⟨a, cap, rfl, _⟩ := hv.one
  have HSL := Lib.hid (srch_len E fr)
  have HBD := Lib.hid (show (srch E fr).1.length ≤ 2000 by have := srch_bound E fr; omega)
  have HBY : Hid (∀ (j : Nat) (b : Int), (srch E fr).2[j]? = some b → b = -1 ∨ ∃ a : Nat, b = a ∧ a < j) := fun j b hb => by
    have hj : j < (srch E fr).1.length := by rw [srch_len]; exact (List.getElem?_eq_some_iff.1 hb).1
    rcases srch_by hb (List.getElem?_eq_getElem hj) with ⟨h, _⟩ | ⟨a, h1, h2, _⟩
    · exact .inl h
    · exact .inr ⟨a, h1, h2⟩
  obtain ⟨SS, hSS⟩ : ∃ s, s = srch E fr := ⟨_, rfl⟩
  rw [← hSS] at HS HSL HBD HBY ⊢
  obtain ⟨WT, hWT⟩ : ∃ l, l = wayTo SS to := ⟨_, rfl⟩
  rw [← hWT]
  have HWT0 := Lib.hid hWT
  clear h hv hok hfr hE hSS hWT
  go_enter Try.func36, Try.ntmps36
  go_wp2_with fail
  refine HS.out.mono ?_
  rintro e w1 ⟨va, vb, rfl, ⟨mbs, hs⟩, hb⟩
  have S1 := Lib.hid hs
  have B1 := Lib.hid hb
  obtain ⟨a1, c1, rfl, _⟩ := hs.all.slice
  obtain ⟨a2, c2, rfl, _⟩ := hs.by_.slice
  clear hs hb
  go_wp2_with fail
  refine (indexI_any SS.1 _ to w1 S1.out.all.mat).mono ?_
  rintro e w1 ⟨rfl, rfl⟩
  by_cases hin : to ∈ SS.1
  · have hfi : fidx SS.1 to = (plc SS.1 to : Nat) := if_pos hin
    rw [hfi]
    have hpl := plc_lt hin
    have HIN := Lib.hid hin
    have HWT : Hid (WT = (atP SS (wayI SS (plc SS.1 to))).reverse) := HWT0.out.trans (if_pos hin)
    obtain ⟨P, hP⟩ : ∃ P, P = plc SS.1 to := ⟨_, rfl⟩
    rw [← hP] at hpl HWT ⊢
    have HPL := Lib.hid hpl
    clear hin hfi hP hpl
    go_wp2
    go_loopw [10, 11] (fun i out wr => ∃ (done : List Nat) (f : Nat) (cur : Int), i = .int .i64 cur ∧ wayI SS P = done ++ chn SS.2 f cur ∧ -1 ≤ cur ∧ cur < f ∧ cur < SS.1.length ∧ OwM 3 1 wr out (atP SS done).length (lv kvI (atP SS done)) ∧ (∀ b, out.ownBlock = some b → w1.heap.size ≤ b) ∧ Below w1.heap.size w1 wr) (fun i _ _ => (intOf i + 1).toNat)
    case atStart => exact ⟨[], P + 1, P, rfl, rfl, by omega, by omega, by have := HPL.out; omega, OwM.nil _ _ _ _, (fun b hb => by cases hb), Below.refl _ _⟩
    case round =>
      obtain ⟨done, f, cur, rfl, hway, hc1, hc2, hc3, hO, hhi, hBe⟩ := hrel
      have HW := Lib.hid hway
      have HO := Lib.hid hO
      have HHI := Lib.hid hhi
      have HBe := Lib.hid hBe
      have hdl : (atP SS done).length ≤ 2001 := by
        have h1 := atP_len SS done
        have h2 := chn_len SS.2 (P + 1) P
        have h3 : (wayI SS P).length ≤ P + 1 := h2
        rw [hway, List.length_append] at h3
        have := HPL.out
        have := HBD.out
        omega
      have HDL := Lib.hid hdl
      clear hway hO hhi hBe hdl
      by_cases hneg : cur < 0
      · have hge : ¬ (0 : Int) ≤ cur := by omega
        have HDW : Hid (wayI SS P = done) := Lib.hid (by rw [HW.out, chn_neg _ _ hneg, List.append_nil])
        have HRV := Lib.hid (reverseI_any (atP SS done) _ wr HO.out (by have := HDL.out; omega))
        obtain ⟨ao, co, eo, _⟩ := HO.out.slice
        subst eo
        clear hc1 hc2 hc3
        go_wp2_with fail
        refine HRV.out.mono ?_
        rintro e w5 ⟨rfl, hO5, hC5⟩
        have HO5 := Lib.hid hO5
        have HC5 := Lib.hid hC5
        clear hO5 hC5
        go_wp2
        go_ret2
        rw [HWT.out, HDW.out, List.length_reverse]
        exact ⟨_, true, rfl, ⟨fun _ => HIN.out, fun _ => rfl⟩, HO5.out, B1.out.trans ((HBe.out.trans (HC5.out.below HBe.out.size HHI.out)).mono B1.out.size)⟩
      · obtain ⟨c, rfl⟩ := Int.eq_ofNat_of_zero_le (show 0 ≤ cur by omega)
        have hge : (0 : Int) ≤ (c : Int) := by omega
        have hcl : c < SS.1.length := by omega
        obtain ⟨f', b, rfl, hb, hch, hb1, hb2, hb3, hb4⟩ := chn_next HSL.out HBY.out (show c < f by omega) hcl
        obtain ⟨x, hx⟩ : ∃ x, SS.1[c]? = some x := ⟨_, List.getElem?_eq_getElem hcl⟩
        have HNW : Hid (wayI SS P = (done ++ [c]) ++ chn SS.2 f' b) := Lib.hid (by rw [HW.out, hch, List.append_assoc]; rfl)
        have HAT := Lib.hid (atP_snoc (l := done) hx)
        have SW := S1.out.below HBe.out
        obtain ⟨ga, ca, ea, _, _, _, hcella⟩ := SW.all.form (by omega)
        simp only [Value.slice.injEq, true_and] at ea
        obtain ⟨rfl, rfl⟩ := ea
        have z1 := hcella c hcl 0 (by decide)
        rw [show c * 1 + 0 = c by omega, lv_at hx] at z1
        have hsl := HSL.out
        obtain ⟨gb, cb, eb, _, _, _, hcellb⟩ := SW.by_.form (by omega)
        simp only [Value.slice.injEq, true_and] at eb
        obtain ⟨rfl, rfl⟩ := eb
        have z2 := hcellb c (by omega) 0 (by decide)
        rw [show c * 1 + 0 = c by omega, lv_at hb] at z2
        have hc9 : (c : Int) < (SS.1.length : Int) := by omega
        have hc8 : (c : Int) < (SS.2.length : Int) := by omega
        have HZ2 := Lib.hid z2
        have HGB := Lib.hid ((S1.out.below HBe.out).by_.lt gb rfl)
        have HBB := Lib.hid (And.intro hb1 (And.intro hb2 (And.intro hb3 hb4)))
        have HBL := Lib.hid (S1.out.by_.lt gb rfl)
        have HON := Lib.hid HO.out
        obtain ⟨ao, co, eo, _⟩ := HO.out.slice
        subst eo
        clear hcella hcellb SW hsl hb hx hch z2 hcl hb1 hb2 hb3 hb4 hc1 hc2 hc3 hneg
        go_upto_region 7 with (refine wpList_append_lit rfl _ _ rfl rfl rfl HON.out Try.underlying56 Try.info3 rfl rfl rfl (by have := HDL.out; unfold maxLen; omega) (by have := HDL.out; omega) ?_; intro v5 w5 ho5 hg5 hp5; have O5 := Lib.hid ho5; have C5 := Lib.hid (Chg.of_lit hg5); have P5 := Lib.hid hp5; obtain ⟨a5, q5, rfl, _⟩ := ho5.slice; clear ho5 hg5 hp5)
        have z2 := (C5.out.cell (p := ⟨gb, c, none⟩) HGB.out fun e => by have h1 := HHI.out gb e; have h2 := HBL.out; omega).trans HZ2.out
        have FO := Lib.hid (O5.out.snoc rfl)
        rw [← HAT.out] at FO
        have HH5 : Hid (∀ b, (Value.slice a5 ((atP SS done).length + 1) q5).ownBlock = some b → w1.heap.size ≤ b) := fun b hb => by
          rcases P5.out with h | h
          · exact HHI.out b (h ▸ hb)
          · have h1 := h b hb
            have h2 := HBe.out.size
            omega
        have HB5 := Lib.hid (HBe.out.trans (C5.out.below HBe.out.size HHI.out))
        go_wp2
        go_roundw
        case rel => first | exact ⟨done ++ [c], f', b, rfl, HNW.out, HBB.out.1, HBB.out.2.1, HBB.out.2.2.1, FO.out, HH5.out, HB5.out⟩ | ((repeat apply Exists.intro); exact ⟨⟨done ++ [c], f', b, rfl, HNW.out, HBB.out.1, HBB.out.2.1, HBB.out.2.2.1, FO.out, HH5.out, HB5.out⟩, rfl⟩)
        case measure => have := HBB.out; simp [intOf]; omega
  · have hfi : fidx SS.1 to = -1 := if_neg hin
    rw [hfi]
    have HIN := Lib.hid hin
    have HWT : Hid (WT = []) := HWT0.out.trans (if_neg hin)
    clear hin hfi
    go_wp2
    go_ret2
    rw [HWT.out]
    exact ⟨_, false, rfl, ⟨(fun e => by cases e), fun h => absurd h HIN.out⟩, OwM.nil _ _ _ _, B1.out⟩
end
end Go.Proofs.Ytlmdgmgbijfaoaa
