/-
  The document's graphs: the search. Conditions: named in each theorem.
-/
import Derived.Test.YtlmdgmgbijfaoaaLtF
set_option linter.unusedVariables false
set_option linter.unusedSimpArgs false
namespace Go.Proofs.Ytlmdgmgbijfaoaa
open Go.RowKit Go.Bas Go.ChangeShapes Go.Maps
attribute [local go_sem ↓] Go.wp_at_zero Go.wp_at_succ
theorem tgt_take {E : List (Int × Int)} {j : Nat} {e : Int × Int} (h : E[j]? = some e) (x : Int) : tgt (E.take (j + 1)) x = if e.1 = x then tgt (E.take j) x ++ [e.2] else tgt (E.take j) x := by
  rw [List.take_add_one, h]
  exact tgt_snoc _ _ _
set_option maxRecDepth 100000 in
set_option maxHeartbeats 3200000 in
theorem searchR_any (E : List (Int × Int)) (u : Value) (w : World) (hu : Mat w u E.length 2 (pv E)) (hE : E.length ≤ 1000) (fr : List Int) (v : Value) (hv : Mat w v fr.length 1 (lv kvI fr)) (hfr : fr.length ≤ 1000) : Calls Try.prog 43 #[u, v] w fun e w' => ∃ va vb, e = .returned (.tuple #[va, vb]) ∧ Sl 3 w.heap.size w' va vb (srch E fr) ∧ Below w.heap.size w w' := by
  obtain ⟨a, cap, rfl, hcap, hcap2, hcell⟩ := hv.one
  obtain ⟨ae, ce, rfl, hce, hce2, hcelle⟩ := hu
  have HC := Lib.hid hcell
  have HCE := Lib.hid hcelle
  have HFR := Lib.hid hfr
  have HE := Lib.hid hE
  clear hv hcell hcelle hfr hE
  go_enter Try.func43, Try.ntmps43
  go_wp2
  go_loopw [8, 6, 7] (fun i all by_ wr => ∃ k : Nat, k ≤ fr.length ∧ i = .int .i64 k ∧ Sl 3 w.heap.size wr all by_ ((fr.take k).foldl (vis (-1)) ([], [])) ∧ Below w.heap.size w wr) (fun i _ _ _ => fr.length - (intOf i).toNat)
  case atStart => exact ⟨0, Nat.zero_le _, rfl, Sl.start, Below.refl _ _⟩
  case round =>
    obtain ⟨k, hk, rfl, hS, hBe⟩ := hrel
    have HBe := Lib.hid hBe
    have HS := Lib.hid hS
    clear hBe hS
    by_cases hlt : k < fr.length
    · obtain ⟨b, o, rfl, hbl, z0⟩ := HC.out k hlt
      obtain ⟨x, hx⟩ : ∃ x, fr[k]? = some x := ⟨_, List.getElem?_eq_getElem hlt⟩
      rw [lv_at hx] at z0
      have z1 := (HBe.out.cell (p := ⟨b, o + k, none⟩) hbl).trans z0
      have hstep := visL_snoc (i := -1) (s := (([], []) : List Int × List Int)) hx
      have hlen := visL_bound (-1) (fr.take k) (([], []) : List Int × List Int)
      have hll := visL_len (-1) (fr.take k) (([], []) : List Int × List Int) rfl
      obtain ⟨s, hs⟩ : ∃ s, s = (fr.take k).foldl (vis (-1)) (([], []) : List Int × List Int) := ⟨_, rfl⟩
      rw [← hs] at HS hstep hlen hll
      have HST := Lib.hid hstep
      have HLEN := Lib.hid (show s.1.length ≤ 3000 by have := HFR.out; rw [List.length_take] at hlen; simp only [List.length_nil] at hlen; omega)
      have HLL := Lib.hid hll
      have hk9 : (k : Int) < 1000000 := by have := HFR.out; omega
      have HKL := Lib.hid hlt
      clear hs hx z0 hstep hlen hll
      obtain ⟨aA, cA, eA, _⟩ := HS.out.all.slice
      obtain ⟨aY, cY, eY, _⟩ := HS.out.by_.slice
      subst eA
      subst eY
      go_wp2_with fail
      refine (inR_any s.1 _ x _ HS.out.all.mat (by have := HLEN.out; omega)).mono ?_
      rintro e w3 ⟨rfl, rfl⟩
      by_cases hin : x ∈ s.1
      · rw [decide_eq_true hin]
        have HNX := Lib.hid (HST.out.trans (vis_in hin))
        clear hin
        go_wp2
        go_roundw
        case rel => first | exact ⟨k + 1, by have := HKL.out; omega, by go_num, by rw [HNX.out]; exact HS.out, HBe.out⟩ | ((repeat apply Exists.intro); exact ⟨⟨k + 1, by have := HKL.out; omega, by go_num, by rw [HNX.out]; exact HS.out, HBe.out⟩, rfl⟩)
        case measure => have := HKL.out; simp [intOf]; omega
      · rw [decide_eq_false hin]
        have HNX := Lib.hid (HST.out.trans (vis_out hin))
        have A1 := Lib.hid HS.out.all
        have Y1 := Lib.hid HS.out.by_
        have AP := Lib.hid HS.out.apart
        clear hin
        go_wp2_with (first | (refine wpList_append_lit rfl _ _ rfl rfl rfl A1.out Try.underlying56 Try.info3 rfl rfl rfl (by have := HLEN.out; unfold maxLen; omega) (by have := HLEN.out; omega) ?_; intro v2 w2 ho2 hg2 hp2; have Y2 := Lib.hid (Y1.out.chg (Chg.of_lit hg2) fun b hb e => AP.out b e hb); have O2 := Lib.hid ho2; have G2 := Lib.hid hg2; have P2 := Lib.hid hp2; obtain ⟨a2, q2, rfl, _⟩ := ho2.slice; clear ho2 hg2 hp2) | (refine wpList_append_lit rfl _ _ rfl rfl rfl Y2.out Try.underlying56 Try.info3 rfl rfl rfl (by have := HLEN.out; have := HLL.out; unfold maxLen; omega) (by have := HLEN.out; have := HLL.out; omega) ?_; intro v3 w3 ho3 hg3 hp3; have O3 := Lib.hid ho3; have G3 := Lib.hid hg3; have P3 := Lib.hid hp3; obtain ⟨a3, q3, rfl, _⟩ := ho3.slice; clear ho3 hg3 hp3))
        obtain ⟨HS3, HB3⟩ := HS.out.add (k := x) (i := -1) (by have := HBe.out.size; omega) O2.out rfl G2.out P2.out O3.out rfl G3.out P3.out
        have HS3 := Lib.hid HS3
        have HB3 := Lib.hid (HBe.out.trans HB3)
        go_roundw
        case rel => first | exact ⟨k + 1, by have := HKL.out; omega, by go_num, by rw [HNX.out]; exact HS3.out, HB3.out⟩ | ((repeat apply Exists.intro); exact ⟨⟨k + 1, by have := HKL.out; omega, by go_num, by rw [HNX.out]; exact HS3.out, HB3.out⟩, rfl⟩)
        case measure => have := HKL.out; simp [intOf]; omega
    · obtain rfl : k = fr.length := by omega
      have hs1 := HS.out
      rw [List.take_length] at hs1
      have S1 := Lib.hid hs1
      clear hs1 HS hlt
      go_wp2
      go_loopw [9, 6, 7] (fun i all by_ wr => ∃ k : Nat, i = .int .i64 k ∧ k ≤ (seqS E fr k).1.length ∧ Sl 3 w.heap.size wr all by_ (seqS E fr k) ∧ Below w.heap.size w wr) (fun i _ _ _ => fr.length + E.length - (intOf i).toNat)
      case atStart => exact ⟨0, rfl, Nat.zero_le _, S1.out, HBe.out⟩
      case round =>
        obtain ⟨k1, rfl, hk1, hS1, hBe1⟩ := hrel
        have HBe := Lib.hid hBe1
        have HS := Lib.hid hS1
        clear hBe1 hS1
        obtain ⟨aA, cA, eA, _⟩ := HS.out.all.slice
        subst eA
        have hbnd := seqS_bound (E := E) (fr := fr) k1
        have hfb := HFR.out
        have heb := HE.out
        by_cases hlt : k1 < (seqS E fr k1).1.length
        · obtain ⟨x, hx⟩ : ∃ x, (seqS E fr k1).1[k1]? = some x := ⟨_, List.getElem?_eq_getElem hlt⟩
          have HSTP := Lib.hid (seqS_some hx)
          have hpre := (seqS_prefix1 (E := E) (fr := fr) k1).1.length_le
          have HPRE := Lib.hid hpre
          have HLT := Lib.hid hlt
          have HBND := Lib.hid hbnd
          have HSL0 := Lib.hid (seqS_len (E := E) (fr := fr) k1)
          have hk9 : (k1 : Int) < ((seqS E fr k1).1.length : Int) := by omega
          have hk8 : (k1 : Int) < 1000000 := by omega
          obtain ⟨s, hs⟩ : ∃ s, s = seqS E fr k1 := ⟨_, rfl⟩
          have HSQ := Lib.hid hs
          have HXX : Hid (s.1[k1]? = some x) := Lib.hid (by rw [hs]; exact hx)
          rw [← hs] at HS hk9 HSTP ⊢
          have HK9 := Lib.hid hk9
          clear hx hbnd hfb heb hlt hpre hs hk1
          go_wp2
          go_loopw [10, 6, 7] (fun i all by_ wr => ∃ t : Nat, t ≤ E.length ∧ i = .int .i64 t ∧ Sl 3 w.heap.size wr all by_ ((tgt (E.take t) x).foldl (vis k1) s) ∧ Below w.heap.size w wr) (fun i _ _ _ => E.length - (intOf i).toNat)
          case atStart => exact ⟨0, Nat.zero_le _, rfl, HS.out, HBe.out⟩
          case round =>
            obtain ⟨t, ht, rfl, hS6, hB6⟩ := hrel
            have HBe := Lib.hid hB6
            have HS := Lib.hid hS6
            clear hB6 hS6
            by_cases hltt : t < E.length
            · obtain ⟨e, he⟩ : ∃ e, E[t]? = some e := ⟨_, List.getElem?_eq_getElem hltt⟩
              obtain ⟨b, o, rfl, hbl, hce9⟩ := HCE.out (by omega)
              have z1 : wr.cell? ⟨b, o + t * 2, none⟩ = some (.int .i64 e.1) := (HBe.out.cell (p := ⟨b, o + t * 2, none⟩) hbl).trans ((hce9 t hltt 0 (by decide)).trans (congrArg some (pv_pf he)))
              have z2 : wr.cell? ⟨b, o + t * 2 + 1, none⟩ = some (.int .i64 e.2) := (HBe.out.cell (p := ⟨b, o + t * 2 + 1, none⟩) hbl).trans ((hce9 t hltt 1 (by decide)).trans (congrArg some (pv_pf he)))
              have hslen := visL_len (k1 : Int) (tgt (E.take t) x) s (by rw [HSQ.out]; exact HSL0.out)
              have hpr := prefix_get (visL_prefix (k1 : Int) (tgt (E.take t) x) s).1 HXX.out
              have hbd := visL_bound (k1 : Int) (tgt (E.take t) x) s
              have hsb : s.1.length ≤ 2000 := by rw [HSQ.out]; have := HBND.out; have := HFR.out; have := HE.out; omega
              have htl := tgt_len (E.take t) x
              rw [List.length_take] at htl
              have hnxt := tgt_take he x
              obtain ⟨s', hs'⟩ : ∃ s', s' = (tgt (E.take t) x).foldl (vis (k1 : Int)) s := ⟨_, rfl⟩
              rw [← hs'] at HS hslen hpr hbd
              have HNE : Hid (e.1 ≠ x → (tgt (E.take (t + 1)) x).foldl (vis (k1 : Int)) s = s') := Lib.hid fun h => by rw [hnxt, if_neg h, hs']
              have HYE : Hid (e.1 = x → (tgt (E.take (t + 1)) x).foldl (vis (k1 : Int)) s = vis k1 s' e.2) := Lib.hid fun h => by rw [hnxt, if_pos h, hs', List.foldl_append]; rfl
              have HLEN := Lib.hid (show s'.1.length ≤ 3000 by have := HE.out; omega)
              have HLL := Lib.hid hslen
              obtain ⟨ga, ca, ea, _, _, _, hca⟩ := HS.out.all.form (by have := (List.getElem?_eq_some_iff.1 hpr).1; omega)
              have hk7 : (k1 : Int) < (s'.1.length : Int) := by have := (List.getElem?_eq_some_iff.1 hpr).1; omega
              have z3 := hca k1 (by omega) 0 (by decide)
              rw [show k1 * 1 + 0 = k1 by omega, lv_at hpr] at z3
              subst ea
              obtain ⟨aY, cY, eY, _⟩ := HS.out.by_.slice
              subst eY
              have ht8 : (t : Int) < 1000000 := by have := HE.out; omega
              obtain ⟨p, q⟩ := e
              have HTL := Lib.hid hltt
              have HMT : Hid (∀ n, Mat (wr.drewN n) (.slice (some ⟨ga, 0, none⟩) s'.1.length ca) s'.1.length 1 (lv kvI s'.1)) := fun n => (HS.out.below (Go.Bas.below_drewN (Below.refl _ _) n)).all.mat
              clear hce9 he hslen hpr hbd hsb htl hnxt hs' hca
              by_cases hpx : p = x
              · have hpx' : (p == x) = true := by simpa using hpx
                have HYE2 := Lib.hid (HYE.out hpx)
                clear hpx
                by_cases hin : q ∈ s'.1
                · have HNX := Lib.hid (HYE2.out.trans (vis_in hin))
                  have HIN := Lib.hid (decide_eq_true hin)
                  clear hin
                  go_wp2
                  go_quiet (first | exact Calls.quiet_of_same (inR_any s'.1 _ q _ (HMT.out _) (by have := HLEN.out; omega)))
                  rw [HIN.out]
                  simp only [Bool.not_true, Bool.not_false]
                  clear z1 z2 z3 hpx' hk7 hk9
                  go_wp2
                  have HS5 := Lib.hid (HS.out.below (Go.Bas.below_drewN (Below.refl _ _) nq))
                  have HB5 := Lib.hid (Go.Bas.below_drewN HBe.out nq)
                  go_roundw
                  case rel => first | exact ⟨t + 1, by have := HTL.out; omega, by go_num, by rw [HNX.out]; exact HS5.out, HB5.out⟩ | ((repeat apply Exists.intro); exact ⟨⟨t + 1, by have := HTL.out; omega, by go_num, by rw [HNX.out]; exact HS5.out, HB5.out⟩, rfl⟩)
                  case measure => have := HTL.out; simp [intOf]; omega
                · have HNX := Lib.hid (HYE2.out.trans (vis_out hin))
                  have HIN := Lib.hid (decide_eq_false hin)
                  clear hin
                  go_wp2
                  go_quiet (first | exact Calls.quiet_of_same (inR_any s'.1 _ q _ (HMT.out _) (by have := HLEN.out; omega)))
                  rw [HIN.out]
                  simp only [Bool.not_true, Bool.not_false]
                  have Z1 := Lib.hid z1
                  have Z3 := Lib.hid z3
                  clear z1 z3 hpx' hk7 hk9
                  have HS5 := Lib.hid (HS.out.below (Go.Bas.below_drewN (Below.refl _ _) nq))
                  have HB5 := Lib.hid (Go.Bas.below_drewN HBe.out nq)
                  have A1 := Lib.hid HS5.out.all
                  have Y1 := Lib.hid HS5.out.by_
                  have AP := Lib.hid HS5.out.apart
                  go_wp2_with (first | (refine wpList_append_lit rfl _ _ rfl rfl rfl A1.out Try.underlying56 Try.info3 rfl rfl rfl (by have := HLEN.out; unfold maxLen; omega) (by have := HLEN.out; omega) ?_; intro v2 w2 ho2 hg2 hp2; have Y2 := Lib.hid (Y1.out.chg (Chg.of_lit hg2) fun b hb e => AP.out b e hb); have O2 := Lib.hid ho2; have G2 := Lib.hid hg2; have P2 := Lib.hid hp2; obtain ⟨a2, q2, rfl, _⟩ := ho2.slice; clear ho2 hg2 hp2) | (refine wpList_append_lit rfl _ _ rfl rfl rfl Y2.out Try.underlying56 Try.info3 rfl rfl rfl (by have := HLEN.out; have := HLL.out; unfold maxLen; omega) (by have := HLEN.out; have := HLL.out; omega) ?_; intro v3 w3 ho3 hg3 hp3; have O3 := Lib.hid ho3; have G3 := Lib.hid hg3; have P3 := Lib.hid hp3; obtain ⟨a3, q3, rfl, _⟩ := ho3.slice; clear ho3 hg3 hp3))
                  obtain ⟨HS3, HB3⟩ := HS5.out.add (k := q) (i := (k1 : Int)) (by have := HB5.out.size; omega) O2.out rfl G2.out P2.out O3.out rfl G3.out P3.out
                  have HS3 := Lib.hid HS3
                  have HB3 := Lib.hid (HB5.out.trans HB3)
                  go_roundw
                  case rel => first | exact ⟨t + 1, by have := HTL.out; omega, by go_num, by rw [HNX.out]; exact HS3.out, HB3.out⟩ | ((repeat apply Exists.intro); exact ⟨⟨t + 1, by have := HTL.out; omega, by go_num, by rw [HNX.out]; exact HS3.out, HB3.out⟩, rfl⟩)
                  case measure => have := HTL.out; simp [intOf]; omega
              · have hpx' : (p == x) = false := by simpa using hpx
                have HNX := Lib.hid (HNE.out hpx)
                clear hpx
                go_wp2
                go_quiet (fail)
                go_wp2
                have HS5 := Lib.hid (HS.out.below (Go.Bas.below_drewN (Below.refl _ _) nq))
                have HB5 := Lib.hid (Go.Bas.below_drewN HBe.out nq)
                go_roundw
                case rel => first | exact ⟨t + 1, by have := HTL.out; omega, by go_num, by rw [HNX.out]; exact HS5.out, HB5.out⟩ | ((repeat apply Exists.intro); exact ⟨⟨t + 1, by have := HTL.out; omega, by go_num, by rw [HNX.out]; exact HS5.out, HB5.out⟩, rfl⟩)
                case measure => have := HTL.out; simp [intOf]; omega
            · obtain rfl : t = E.length := by omega
              have hfull : Hid (seqS E fr (k1 + 1) = (tgt (E.take E.length) x).foldl (vis k1) s) := by rw [List.take_length]; exact HSTP.out
              clear hltt
              go_wp2
              go_roundw
              case rel => first | exact ⟨k1 + 1, by go_num, by have := HLT.out; have := HPRE.out; omega, by rw [hfull.out]; exact HS.out, HBe.out⟩ | ((repeat apply Exists.intro); exact ⟨⟨k1 + 1, by go_num, by have := HLT.out; have := HPRE.out; omega, by rw [hfull.out]; exact HS.out, HBe.out⟩, rfl⟩)
              case measure => have := HLT.out; have := HBND.out; simp [intOf]; omega
        · have hend : (seqS E fr k1).1.length = k1 := by omega
          have HEND := Lib.hid (seqS_end hend)
          have hk9 : ¬ (k1 : Int) < ((seqS E fr k1).1.length : Int) := by omega
          obtain ⟨aY, cY, eY, _⟩ := HS.out.by_.slice
          subst eY
          have HSF : Hid (Sl 3 w.heap.size wr (.slice (aA) (seqS E fr k1).1.length cA) (.slice aY (seqS E fr k1).2.length cY) (srch E fr)) := by
            have key : ∀ s', s' = seqS E fr k1 → Sl 3 w.heap.size wr (.slice (aA) (seqS E fr k1).1.length cA) (.slice aY (seqS E fr k1).2.length cY) s' := by rintro _ rfl; exact HS.out
            exact key _ HEND.out
          clear hend hbnd hfb heb hlt
          go_wp2
          go_ret2
          exact ⟨_, _, rfl, HSF.out, HBe.out⟩
end Go.Proofs.Ytlmdgmgbijfaoaa
