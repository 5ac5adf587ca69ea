/-
  LatticePath: paths follow edges. Conditions: named in each theorem.
-/
import Derived.Test.YtlmdgmgbijfaoaaLtB
import Derived.Test.YtlmdgmgbijfaoaaGrP
set_option linter.unusedVariables false
set_option linter.unusedSimpArgs false
namespace Go.Proofs.Ytlmdgmgbijfaoaa
open Go.RowKit Go.Bas Go.ChangeShapes Go.Maps
attribute [local go_sem ↓] Go.wp_at_zero Go.wp_at_succ
theorem later {B : Nat} {w w1 w2 : World} (hB : B = w.heap.size) (h : Below B w w1) (h2 : Below w1.heap.size w1 w2) : Below B w w2 := h.trans (h2.mono (hB ▸ h.size))
set_option maxRecDepth 100000 in
set_option maxHeartbeats 6400000 in
theorem latticePath_law (w : World) (v0 : Value) (L : List (Int × Int)) (hv0 : Mat w v0 L.length 2 (pv L)) (hL : ∀ e, e ∈ L → okI e.1 ∧ okI e.2) (v1 : Value) (fr : List Int) (hv1 : Mat w v1 fr.length 1 (lv kvI fr)) (hfr : ∀ x, x ∈ fr → okI x) (to : Int) (wto : (Lit.int .i64 to).wf = true) :
    Calls Try.prog 7 #[v0, v1, .int .i64 to] w fun e w' => e = .returned (.bool true) ∧ Below w.heap.size w w' := by
  have hto : okI to := by have := bounds_i64 wto; exact ⟨by omega, by omega⟩
  clear wto
  obtain ⟨B, hB⟩ : ∃ x, x = w.heap.size := ⟨_, rfl⟩
  have HB := Lib.hid hB
  have HV0 := Lib.hid hv0
  have HV1 := Lib.hid hv1
  have HL := Lib.hid hL
  have HFR := Lib.hid hfr
  have HTO := Lib.hid hto
  obtain ⟨a0, c0, rfl, hc0, hc0', hcell0⟩ := hv0
  have C0 := Lib.hid hcell0
  obtain ⟨a1, c1, rfl, hc1, hc1', hcell1⟩ := hv1.one
  rw [← hB]
  clear hv1 hL hfr hto hcell0 hcell1 hB
  go_enter Try.func7, Try.ntmps7
  go_wp2_with fail
  refine (awake26 w).mono ?_
  rintro e w1 ⟨rfl, b1⟩
  have B1 : Hid (Below B w w1) := by rw [HB.out]; exact b1
  clear b1
  by_cases h40 : 40 < L.length
  · have h40' : (40 : Int) < L.length := by omega
    go_wp2
    go_ret
    exact ⟨rfl, B1.out⟩
  have h40' : ¬ (40 : Int) < L.length := by omega
  by_cases h20 : 20 < fr.length
  · have h20' : (20 : Int) < fr.length := by omega
    go_wp2
    go_ret
    exact ⟨rfl, B1.out⟩
  have h20' : ¬ (20 : Int) < fr.length := by omega
  have hol := onceL_len L
  have HLL := Lib.hid (show L.length ≤ 40 by omega)
  have HFL := Lib.hid (show fr.length ≤ 20 by omega)
  have HOL := Lib.hid (show (onceL L).length ≤ 40 by omega)
  clear hol h40 h20
  go_wp2_with fail
  refine (graph_any L _ w1 (HV0.out.below (HB.out ▸ B1.out)) HL.out (by have := HLL.out; omega)).mono ?_
  rintro e w2 ⟨p, F, rfl, hg, b2⟩
  have HG := Lib.hid hg
  have B2 := Lib.hid (later HB.out B1.out b2)
  clear hg b2
  go_wp2_with fail
  refine (pathI_any HG.out to fr _ (HV1.out.below (HB.out ▸ B2.out)) HFR.out (by have := HFL.out; omega) (by have := HOL.out; omega)).mono ?_
  rintro e w3 ⟨va, ok, rfl, hok, hp, b3⟩
  have G3 := Lib.hid (HG.out.below b3)
  have B3 := Lib.hid (later HB.out B2.out b3)
  have HP := Lib.hid hp
  have HOK := Lib.hid hok
  obtain ⟨ap, cp, rfl, _⟩ := hp.slice
  clear hok hp b3
  go_wp2_with fail
  refine (reachI_any G3.out fr _ (HV1.out.below (HB.out ▸ B3.out)) HFR.out (by have := HFL.out; omega) (by have := HOL.out; omega)).mono ?_
  rintro e w4 ⟨vr, rfl, hr, _, b4⟩
  have P4 := Lib.hid (HP.out.below b4)
  have B4 := Lib.hid (later HB.out B3.out b4)
  have HR4 := Lib.hid hr
  have HSB := Lib.hid (srch_bound (onceL L) fr)
  obtain ⟨ar, cr, rfl, _⟩ := hr.slice
  clear hr b4
  go_wp2_with fail
  refine (inR_any (srch (onceL L) fr).1 _ to w4 HR4.out.mat (by have := HSB.out; have := HFL.out; have := HOL.out; omega)).mono ?_
  rintro e w4 ⟨rfl, rfl⟩
  cases ok with
  | false =>
    have hno : to ∉ (srch (onceL L) fr).1 := fun h => by have := HOK.out.2 h; cases this
    rw [decide_eq_false hno]
    have hw0 : (wayTo (srch (onceL L) fr) to).length = 0 := by unfold wayTo; rw [if_neg hno]; rfl
    rw [hw0]
    clear hno hw0
    go_wp2
    go_ret
    exact ⟨rfl, B4.out⟩
  | true =>
    have hin := HOK.out.1 rfl
    rw [decide_eq_true hin]
    obtain ⟨⟨p0, hp0, hp0f, hshort⟩, hlast, hlen1, honly, hadj, hnd⟩ := way_laws hin
    have hwl : (wayTo (srch (onceL L) fr) to).length ≤ 1000 := by
      have h1 : ∀ x, x ∈ wayTo (srch (onceL L) fr) to → x ∈ (srch (onceL L) fr).1 := fun x hx => by
        unfold wayTo at hx
        rw [if_pos hin] at hx
        rw [List.mem_reverse] at hx
        unfold atP at hx
        rw [List.mem_filterMap] at hx
        obtain ⟨j, _, hj⟩ := hx
        exact List.mem_of_getElem? hj
      have h2 := nodup_len hnd h1
      have := HSB.out
      have := HFL.out
      have := HOL.out
      omega
    obtain ⟨P, hP⟩ : ∃ P, P = wayTo (srch (onceL L) fr) to := ⟨_, rfl⟩
    rw [← hP] at P4 hp0 hshort hlast hlen1 honly hadj hnd hwl ⊢
    have hadj' : ∀ (i : Nat) (a b : Int), P[i]? = some a → P[i + 1]? = some b → (a, b) ∈ L := fun i a b h1 h2 => mem_onceL.1 (hadj i a b h1 h2)
    have hshort' : (p0, to) ∈ L → P.length ≤ 2 := fun h => hshort (mem_onceL.2 h)
    have HADJ := Lib.hid hadj'
    have HSH := Lib.hid hshort'
    have HND := Lib.hid hnd
    have HP0 := Lib.hid hp0
    have HPL := Lib.hid hwl
    obtain ⟨gp, cp', ep, hrp, hcp, _, hcellp⟩ := P4.out.form (by omega)
    simp only [Value.slice.injEq, true_and] at ep
    obtain ⟨rfl, rfl⟩ := ep
    have CP : Hid (∀ (w' : World), Below w4.heap.size w4 w' → ∀ (j : Nat) (x : Int), P[j]? = some x → w'.cell? ⟨gp, j, none⟩ = some (.int .i64 x)) := fun w' hb j x hx => by
      have hj := (List.getElem?_eq_some_iff.1 hx).1
      have h1 := hcellp j hj 0 (by decide)
      rw [show j * 1 + 0 = j by omega, lv_at hx] at h1
      exact (hb.cell (p := ⟨gp, j, none⟩) hrp.lt).trans h1
    have z0 := CP.out w4 (Below.refl _ _) 0 p0 hp0
    have zl := CP.out w4 (Below.refl _ _) _ to hlast
    have hl9 : ¬ (P.length : Int) < 1 := by omega
    have hl8 : (0 : Int) < (P.length : Int) := by omega
    have hwr : IntKind.i64.wrap ((P.length : Int) - 1) = (P.length : Int) - 1 := wrap_i64_id (by omega) (by omega)
    obtain ⟨pl, hpl⟩ : ∃ pl : Nat, pl = P.length - 1 := ⟨_, rfl⟩
    have hpl2 : (P.length : Int) - 1 = (pl : Int) := by omega
    rw [← hpl] at zl
    rw [hpl2] at hwr
    have hpl3 : (pl : Int) < (P.length : Int) := by omega
    have HCAP := Lib.hid hcp
    have M1 := Lib.hid (HV1.out.below (HB.out ▸ B4.out))
    clear hcellp hrp hadj hadj' hshort hshort' hnd hp0 hlast hP hpl hlen1
    go_wp2_with fail
    refine (inR_any fr _ p0 w4 M1.out (by have := HFL.out; omega)).mono ?_
    rintro e w4 ⟨rfl, rfl⟩
    rw [decide_eq_true hp0f]
    by_cases h1 : 1 < P.length
    · have h1' : (1 : Int) < (P.length : Int) := by omega
      have hnf : ¬ to ∈ fr := fun h => by have := honly h; omega
      have HNF := Lib.hid (decide_eq_false hnf)
      clear hnf honly hp0f
      go_wp2_with fail
      refine (inR_any fr _ to w4 M1.out (by have := HFL.out; omega)).mono ?_
      rintro e w4 ⟨rfl, rfl⟩
      rw [HNF.out]
      clear z0 zl hl9 hwr hpl2 hpl3
      go_wp2
      go_loopw [10] (fun i wr => ∃ k : Nat, 1 ≤ k ∧ k ≤ P.length ∧ i = .int .i64 k ∧ Below w4.heap.size w4 wr) (fun i _ => P.length - (intOf i).toNat)
      case atStart => exact ⟨1, Nat.le_refl _, by omega, rfl, Below.refl _ _⟩
      case round =>
        obtain ⟨k, hk1, hk, rfl, hBe⟩ := hrel
        have HBe := Lib.hid hBe
        have HK1 := Lib.hid hk1
        clear hBe
        by_cases hlt : k < P.length
        · obtain ⟨x, hx⟩ : ∃ x, P[k - 1]? = some x := ⟨_, List.getElem?_eq_getElem (by omega)⟩
          obtain ⟨y, hy⟩ : ∃ y, P[k]? = some y := ⟨_, List.getElem?_eq_getElem hlt⟩
          have hE := HADJ.out (k - 1) x y hx (by rw [show k - 1 + 1 = k by omega]; exact hy)
          have HXX := Lib.hid hx
          have HYY := Lib.hid hy
          have HEE := Lib.hid hE
          obtain ⟨km, hkm⟩ : ∃ km, km = k - 1 := ⟨_, rfl⟩
          have hwk : IntKind.i64.wrap ((k : Int) - 1) = (k : Int) - 1 := wrap_i64_id (by omega) (by omega)
          have hkm2 : (k : Int) - 1 = (km : Int) := by omega
          have hwk : IntKind.i64.wrap ((k : Int) - 1) = (km : Int) := hwk.trans hkm2
          have HKM := Lib.hid hkm
          have HWK := Lib.hid hwk
          have hk9 : (k : Int) < (P.length : Int) := by omega
          have hkm9 : (km : Int) < (P.length : Int) := by omega
          have HLT := Lib.hid hlt
          clear hx hy hE hkm hwk hkm2 hlt hk1 hk
          go_wp2
          go_loopw [84, 11] (fun i eg wr => ∃ t : Nat, t ≤ L.length ∧ i = .int .i64 t ∧ (∃ b, eg = .bool b ∧ (b = true ↔ ∃ t', t' < t ∧ L[t']? = some (x, y))) ∧ Below w4.heap.size w4 wr) (fun i _ _ => L.length - (intOf i).toNat)
          case atStart => exact ⟨0, Nat.zero_le _, rfl, ⟨false, rfl, (fun e => by cases e), fun ⟨t', h, _⟩ => absurd h (Nat.not_lt_zero _)⟩, HBe.out⟩
          case round =>
            obtain ⟨t, ht, rfl, ⟨eg, rfl, heg⟩, hB1⟩ := hrel
            have HB1 := Lib.hid hB1
            have HEG := Lib.hid heg
            clear hB1 heg
            by_cases hltt : t < L.length
            · obtain ⟨b, o, ra, hb, hc⟩ := C0.out (by omega)
              obtain ⟨⟨u, v⟩, huv⟩ : ∃ e, L[t]? = some e := ⟨_, List.getElem?_eq_getElem hltt⟩
              subst ra
              have BW := Lib.hid (later HB.out B4.out HB1.out)
              have HCL : Hid (∀ i, i < 2 → wr.cell? ⟨b, o + t * 2 + i, none⟩ = some (pv L t i)) := fun i hi => (BW.out.cell (p := ⟨b, o + t * 2 + i, none⟩) (HB.out ▸ hb)).trans (hc t hltt i hi)
              have HOC : Hid (∀ i, i < 2 → (pv L t i).oneCell' = true) := fun i hi => by rw [pv_at huv]; rfl
              have HUV := Lib.hid huv
              have ht8 : (t : Int) < 1000000 := by have := HLL.out; omega
              clear hc huv
              go_upto_region 20 with (first | (refine load_row rfl rfl rfl Try.underlying63 rfl Try.sizeP HCL.out ?_) | (refine store_rowV rfl 63 _ _ rfl wr.heap.size 2 (pv L t) _ 63 (heap_alloc_new _ _) rfl Try.sizeP rfl rfl HOC.out ?_))
              refine wp_world (fun w5 => RowN w5 wr.heap.size 2 63 (pv L t) ∧ Below wr.heap.size wr w5) ⟨RowN.setRow (heap_alloc_new _ _), below_setRow' ((Below.refl _ _).alloc (Nat.le_refl _) _) (Nat.le_refl _) _⟩ ?_
              rintro w5 ⟨hr5, hb5⟩
              have e0 := hr5.2 0 (by decide)
              have e1 := hr5.2 1 (by decide)
              rw [pv_at HUV.out, if_pos rfl] at e0
              rw [pv_at HUV.out, if_neg (by decide)] at e1
              have B5 := Lib.hid (HB1.out.trans (hb5.mono HB1.out.size))
              have y0 := CP.out _ B5.out 0 p0 HP0.out
              have y1 := CP.out _ B5.out (k - 1) x HXX.out
              have hk1i : (1 : Int) ≤ (k : Int) := by have := HK1.out; omega
              have hkli : (k : Int) - 1 < (P.length : Int) := by have := HLT.out; omega
              have y2 := CP.out _ B5.out k y HYY.out
              have hl8 : (0 : Int) < (P.length : Int) := by have := HLT.out; omega
              have hsh : (u = p0 ∧ v = to) → P.length ≤ 2 := fun ⟨h1, h2⟩ => HSH.out (by rw [← h1, ← h2]; exact List.mem_of_getElem? HUV.out)
              have HSHT := Lib.hid hsh
              clear hr5 hb5 HCL hsh
              cases eg with
              | true =>
                have HT : Hid (∃ t', t' < t ∧ L[t']? = some (x, y)) := HEG.out.1 rfl
                clear HEG
                go_wp2
                go_quiet (fail)
                obtain ⟨nq0, hnq0⟩ : ∃ m, m = nq := ⟨_, rfl⟩
                rw [← hnq0]
                clear hnq0
                by_cases hp : u = p0
                · have hp' : (u == p0) = true := by simpa using hp
                  by_cases hq : v = to
                  · have hq' : (v == to) = true := by simpa using hq
                    have hle := HSHT.out ⟨hp, hq⟩
                    have hl2 : ¬ (2 : Int) < (P.length : Int) := by omega
                    clear hle hp hq
                    go_wp2
                    go_quiet (fail)
                    rw [decide_eq_false (show ¬ (2 : Int) < (P.length : Int) by omega)]
                    clear hl2
                    go_wp2
                    have NBA : Hid (∀ n, Below w4.heap.size w4 (w5.drewN n)) := fun n => Go.Bas.below_drewN B5.out n
                    have NE : Hid (true = true ↔ ∃ t', t' < t + 1 ∧ L[t']? = some (x, y)) := Lib.hid (⟨fun _ => by obtain ⟨t2, h1, h2⟩ := HT.out; exact ⟨t2, by omega, h2⟩, fun _ => rfl⟩)
                    go_roundw
                    case rel => first | exact ⟨t + 1, by omega, by go_num, ⟨_, rfl, NE.out⟩, by first | exact NBA.out _ | exact Go.Bas.below_drewN (NBA.out _) _⟩ | ((repeat apply Exists.intro); exact ⟨⟨t + 1, by omega, by go_num, ⟨_, rfl, NE.out⟩, by first | exact NBA.out _ | exact Go.Bas.below_drewN (NBA.out _) _⟩, rfl⟩)
                    case measure => simp [intOf]; omega
                  · have hq' : (v == to) = false := by simpa using hq
                    clear hp hq
                    go_wp2
                    go_quiet (fail)
                    go_wp2
                    have NBA : Hid (∀ n, Below w4.heap.size w4 (w5.drewN n)) := fun n => Go.Bas.below_drewN B5.out n
                    have NE : Hid (true = true ↔ ∃ t', t' < t + 1 ∧ L[t']? = some (x, y)) := Lib.hid (⟨fun _ => by obtain ⟨t2, h1, h2⟩ := HT.out; exact ⟨t2, by omega, h2⟩, fun _ => rfl⟩)
                    go_roundw
                    case rel => first | exact ⟨t + 1, by omega, by go_num, ⟨_, rfl, NE.out⟩, by first | exact NBA.out _ | exact Go.Bas.below_drewN (NBA.out _) _⟩ | ((repeat apply Exists.intro); exact ⟨⟨t + 1, by omega, by go_num, ⟨_, rfl, NE.out⟩, by first | exact NBA.out _ | exact Go.Bas.below_drewN (NBA.out _) _⟩, rfl⟩)
                    case measure => simp [intOf]; omega
                · have hp' : (u == p0) = false := by simpa using hp
                  clear hp
                  go_wp2
                  go_quiet (fail)
                  go_wp2
                  have NBA : Hid (∀ n, Below w4.heap.size w4 (w5.drewN n)) := fun n => Go.Bas.below_drewN B5.out n
                  have NE : Hid (true = true ↔ ∃ t', t' < t + 1 ∧ L[t']? = some (x, y)) := Lib.hid (⟨fun _ => by obtain ⟨t2, h1, h2⟩ := HT.out; exact ⟨t2, by omega, h2⟩, fun _ => rfl⟩)
                  go_roundw
                  case rel => first | exact ⟨t + 1, by omega, by go_num, ⟨_, rfl, NE.out⟩, by first | exact NBA.out _ | exact Go.Bas.below_drewN (NBA.out _) _⟩ | ((repeat apply Exists.intro); exact ⟨⟨t + 1, by omega, by go_num, ⟨_, rfl, NE.out⟩, by first | exact NBA.out _ | exact Go.Bas.below_drewN (NBA.out _) _⟩, rfl⟩)
                  case measure => simp [intOf]; omega
              | false =>
                have hno : Hid (∀ t', t' < t → L[t']? ≠ some (x, y)) := fun t' h1 h2 => by have := HEG.out.2 ⟨t', h1, h2⟩; cases this
                clear HEG
                by_cases hux : u = x
                · have hux' : (u == x) = true := by simpa using hux
                  by_cases hvy : v = y
                  · have hvy' : (v == y) = true := by simpa using hvy
                    have HUX := Lib.hid (And.intro hux hvy)
                    clear hux hvy
                    go_wp2
                    go_quiet (fail)
                    obtain ⟨nq0, hnq0⟩ : ∃ m, m = nq := ⟨_, rfl⟩
                    rw [← hnq0]
                    clear hnq0
                    by_cases hp : u = p0
                    · have hp' : (u == p0) = true := by simpa using hp
                      by_cases hq : v = to
                      · have hq' : (v == to) = true := by simpa using hq
                        have hle := HSHT.out ⟨hp, hq⟩
                        have hl2 : ¬ (2 : Int) < (P.length : Int) := by omega
                        clear hle hp hq
                        go_wp2
                        go_quiet (fail)
                        rw [decide_eq_false (show ¬ (2 : Int) < (P.length : Int) by omega)]
                        clear hl2
                        go_wp2
                        have NBA : Hid (∀ n, Below w4.heap.size w4 (w5.drewN n)) := fun n => Go.Bas.below_drewN B5.out n
                        have NE : Hid (true = true ↔ ∃ t', t' < t + 1 ∧ L[t']? = some (x, y)) := Lib.hid (⟨fun _ => ⟨t, by omega, by rw [HUV.out, HUX.out.1, HUX.out.2]⟩, fun _ => rfl⟩)
                        go_roundw
                        case rel => first | exact ⟨t + 1, by omega, by go_num, ⟨_, rfl, NE.out⟩, by first | exact NBA.out _ | exact Go.Bas.below_drewN (NBA.out _) _⟩ | ((repeat apply Exists.intro); exact ⟨⟨t + 1, by omega, by go_num, ⟨_, rfl, NE.out⟩, by first | exact NBA.out _ | exact Go.Bas.below_drewN (NBA.out _) _⟩, rfl⟩)
                        case measure => simp [intOf]; omega
                      · have hq' : (v == to) = false := by simpa using hq
                        clear hp hq
                        go_wp2
                        go_quiet (fail)
                        go_wp2
                        have NBA : Hid (∀ n, Below w4.heap.size w4 (w5.drewN n)) := fun n => Go.Bas.below_drewN B5.out n
                        have NE : Hid (true = true ↔ ∃ t', t' < t + 1 ∧ L[t']? = some (x, y)) := Lib.hid (⟨fun _ => ⟨t, by omega, by rw [HUV.out, HUX.out.1, HUX.out.2]⟩, fun _ => rfl⟩)
                        go_roundw
                        case rel => first | exact ⟨t + 1, by omega, by go_num, ⟨_, rfl, NE.out⟩, by first | exact NBA.out _ | exact Go.Bas.below_drewN (NBA.out _) _⟩ | ((repeat apply Exists.intro); exact ⟨⟨t + 1, by omega, by go_num, ⟨_, rfl, NE.out⟩, by first | exact NBA.out _ | exact Go.Bas.below_drewN (NBA.out _) _⟩, rfl⟩)
                        case measure => simp [intOf]; omega
                    · have hp' : (u == p0) = false := by simpa using hp
                      clear hp
                      go_wp2
                      go_quiet (fail)
                      go_wp2
                      have NBA : Hid (∀ n, Below w4.heap.size w4 (w5.drewN n)) := fun n => Go.Bas.below_drewN B5.out n
                      have NE : Hid (true = true ↔ ∃ t', t' < t + 1 ∧ L[t']? = some (x, y)) := Lib.hid (⟨fun _ => ⟨t, by omega, by rw [HUV.out, HUX.out.1, HUX.out.2]⟩, fun _ => rfl⟩)
                      go_roundw
                      case rel => first | exact ⟨t + 1, by omega, by go_num, ⟨_, rfl, NE.out⟩, by first | exact NBA.out _ | exact Go.Bas.below_drewN (NBA.out _) _⟩ | ((repeat apply Exists.intro); exact ⟨⟨t + 1, by omega, by go_num, ⟨_, rfl, NE.out⟩, by first | exact NBA.out _ | exact Go.Bas.below_drewN (NBA.out _) _⟩, rfl⟩)
                      case measure => simp [intOf]; omega
                  · have hvy' : (v == y) = false := by simpa using hvy
                    have HVY := Lib.hid hvy
                    clear hux hvy
                    go_wp2
                    go_quiet (fail)
                    obtain ⟨nq0, hnq0⟩ : ∃ m, m = nq := ⟨_, rfl⟩
                    rw [← hnq0]
                    clear hnq0
                    by_cases hp : u = p0
                    · have hp' : (u == p0) = true := by simpa using hp
                      by_cases hq : v = to
                      · have hq' : (v == to) = true := by simpa using hq
                        have hle := HSHT.out ⟨hp, hq⟩
                        have hl2 : ¬ (2 : Int) < (P.length : Int) := by omega
                        clear hle hp hq
                        go_wp2
                        go_quiet (fail)
                        rw [decide_eq_false (show ¬ (2 : Int) < (P.length : Int) by omega)]
                        clear hl2
                        go_wp2
                        have NBA : Hid (∀ n, Below w4.heap.size w4 (w5.drewN n)) := fun n => Go.Bas.below_drewN B5.out n
                        have NE : Hid (false = true ↔ ∃ t', t' < t + 1 ∧ L[t']? = some (x, y)) := Lib.hid (⟨(fun e => by cases e), fun ⟨t2, h1, h2⟩ => by
                        exfalso
                        by_cases e : t2 = t
                        · rw [e, HUV.out] at h2
                          exact HVY.out (by injection (Option.some.inj h2))
                        · exact hno.out t2 (by omega) h2⟩)
                        go_roundw
                        case rel => first | exact ⟨t + 1, by omega, by go_num, ⟨_, rfl, NE.out⟩, by first | exact NBA.out _ | exact Go.Bas.below_drewN (NBA.out _) _⟩ | ((repeat apply Exists.intro); exact ⟨⟨t + 1, by omega, by go_num, ⟨_, rfl, NE.out⟩, by first | exact NBA.out _ | exact Go.Bas.below_drewN (NBA.out _) _⟩, rfl⟩)
                        case measure => simp [intOf]; omega
                      · have hq' : (v == to) = false := by simpa using hq
                        clear hp hq
                        go_wp2
                        go_quiet (fail)
                        go_wp2
                        have NBA : Hid (∀ n, Below w4.heap.size w4 (w5.drewN n)) := fun n => Go.Bas.below_drewN B5.out n
                        have NE : Hid (false = true ↔ ∃ t', t' < t + 1 ∧ L[t']? = some (x, y)) := Lib.hid (⟨(fun e => by cases e), fun ⟨t2, h1, h2⟩ => by
                        exfalso
                        by_cases e : t2 = t
                        · rw [e, HUV.out] at h2
                          exact HVY.out (by injection (Option.some.inj h2))
                        · exact hno.out t2 (by omega) h2⟩)
                        go_roundw
                        case rel => first | exact ⟨t + 1, by omega, by go_num, ⟨_, rfl, NE.out⟩, by first | exact NBA.out _ | exact Go.Bas.below_drewN (NBA.out _) _⟩ | ((repeat apply Exists.intro); exact ⟨⟨t + 1, by omega, by go_num, ⟨_, rfl, NE.out⟩, by first | exact NBA.out _ | exact Go.Bas.below_drewN (NBA.out _) _⟩, rfl⟩)
                        case measure => simp [intOf]; omega
                    · have hp' : (u == p0) = false := by simpa using hp
                      clear hp
                      go_wp2
                      go_quiet (fail)
                      go_wp2
                      have NBA : Hid (∀ n, Below w4.heap.size w4 (w5.drewN n)) := fun n => Go.Bas.below_drewN B5.out n
                      have NE : Hid (false = true ↔ ∃ t', t' < t + 1 ∧ L[t']? = some (x, y)) := Lib.hid (⟨(fun e => by cases e), fun ⟨t2, h1, h2⟩ => by
                      exfalso
                      by_cases e : t2 = t
                      · rw [e, HUV.out] at h2
                        exact HVY.out (by injection (Option.some.inj h2))
                      · exact hno.out t2 (by omega) h2⟩)
                      go_roundw
                      case rel => first | exact ⟨t + 1, by omega, by go_num, ⟨_, rfl, NE.out⟩, by first | exact NBA.out _ | exact Go.Bas.below_drewN (NBA.out _) _⟩ | ((repeat apply Exists.intro); exact ⟨⟨t + 1, by omega, by go_num, ⟨_, rfl, NE.out⟩, by first | exact NBA.out _ | exact Go.Bas.below_drewN (NBA.out _) _⟩, rfl⟩)
                      case measure => simp [intOf]; omega
                · have hux' : (u == x) = false := by simpa using hux
                  have HUX := Lib.hid hux
                  clear hux
                  go_wp2
                  go_quiet (fail)
                  obtain ⟨nq0, hnq0⟩ : ∃ m, m = nq := ⟨_, rfl⟩
                  rw [← hnq0]
                  clear hnq0
                  by_cases hp : u = p0
                  · have hp' : (u == p0) = true := by simpa using hp
                    by_cases hq : v = to
                    · have hq' : (v == to) = true := by simpa using hq
                      have hle := HSHT.out ⟨hp, hq⟩
                      have hl2 : ¬ (2 : Int) < (P.length : Int) := by omega
                      clear hle hp hq
                      go_wp2
                      go_quiet (fail)
                      rw [decide_eq_false (show ¬ (2 : Int) < (P.length : Int) by omega)]
                      clear hl2
                      go_wp2
                      have NBA : Hid (∀ n, Below w4.heap.size w4 (w5.drewN n)) := fun n => Go.Bas.below_drewN B5.out n
                      have NE : Hid (false = true ↔ ∃ t', t' < t + 1 ∧ L[t']? = some (x, y)) := Lib.hid (⟨(fun e => by cases e), fun ⟨t2, h1, h2⟩ => by
                      exfalso
                      by_cases e : t2 = t
                      · rw [e, HUV.out] at h2
                        exact HUX.out (by injection (Option.some.inj h2))
                      · exact hno.out t2 (by omega) h2⟩)
                      go_roundw
                      case rel => first | exact ⟨t + 1, by omega, by go_num, ⟨_, rfl, NE.out⟩, by first | exact NBA.out _ | exact Go.Bas.below_drewN (NBA.out _) _⟩ | ((repeat apply Exists.intro); exact ⟨⟨t + 1, by omega, by go_num, ⟨_, rfl, NE.out⟩, by first | exact NBA.out _ | exact Go.Bas.below_drewN (NBA.out _) _⟩, rfl⟩)
                      case measure => simp [intOf]; omega
                    · have hq' : (v == to) = false := by simpa using hq
                      clear hp hq
                      go_wp2
                      go_quiet (fail)
                      go_wp2
                      have NBA : Hid (∀ n, Below w4.heap.size w4 (w5.drewN n)) := fun n => Go.Bas.below_drewN B5.out n
                      have NE : Hid (false = true ↔ ∃ t', t' < t + 1 ∧ L[t']? = some (x, y)) := Lib.hid (⟨(fun e => by cases e), fun ⟨t2, h1, h2⟩ => by
                      exfalso
                      by_cases e : t2 = t
                      · rw [e, HUV.out] at h2
                        exact HUX.out (by injection (Option.some.inj h2))
                      · exact hno.out t2 (by omega) h2⟩)
                      go_roundw
                      case rel => first | exact ⟨t + 1, by omega, by go_num, ⟨_, rfl, NE.out⟩, by first | exact NBA.out _ | exact Go.Bas.below_drewN (NBA.out _) _⟩ | ((repeat apply Exists.intro); exact ⟨⟨t + 1, by omega, by go_num, ⟨_, rfl, NE.out⟩, by first | exact NBA.out _ | exact Go.Bas.below_drewN (NBA.out _) _⟩, rfl⟩)
                      case measure => simp [intOf]; omega
                  · have hp' : (u == p0) = false := by simpa using hp
                    clear hp
                    go_wp2
                    go_quiet (fail)
                    go_wp2
                    have NBA : Hid (∀ n, Below w4.heap.size w4 (w5.drewN n)) := fun n => Go.Bas.below_drewN B5.out n
                    have NE : Hid (false = true ↔ ∃ t', t' < t + 1 ∧ L[t']? = some (x, y)) := Lib.hid (⟨(fun e => by cases e), fun ⟨t2, h1, h2⟩ => by
                    exfalso
                    by_cases e : t2 = t
                    · rw [e, HUV.out] at h2
                      exact HUX.out (by injection (Option.some.inj h2))
                    · exact hno.out t2 (by omega) h2⟩)
                    go_roundw
                    case rel => first | exact ⟨t + 1, by omega, by go_num, ⟨_, rfl, NE.out⟩, by first | exact NBA.out _ | exact Go.Bas.below_drewN (NBA.out _) _⟩ | ((repeat apply Exists.intro); exact ⟨⟨t + 1, by omega, by go_num, ⟨_, rfl, NE.out⟩, by first | exact NBA.out _ | exact Go.Bas.below_drewN (NBA.out _) _⟩, rfl⟩)
                    case measure => simp [intOf]; omega
            · obtain rfl : t = L.length := by omega
              obtain rfl : eg = true := HEG.out.2 (by
                obtain ⟨j, hj, e⟩ := List.mem_iff_getElem.1 HEE.out
                exact ⟨j, hj, by rw [List.getElem?_eq_getElem hj, e]⟩)
              have hnin : ¬ y ∈ P.take k := fun hm => by
                obtain ⟨j, hj, e⟩ := List.mem_iff_getElem.1 hm
                rw [List.length_take] at hj
                have h1 : P[j]? = some y := by
                  have h2 := List.getElem?_eq_getElem (l := P.take k) (by rw [List.length_take]; exact hj)
                  rw [e, List.getElem?_take, if_pos (by omega)] at h2
                  exact h2
                obtain ⟨l1, e1⟩ := List.getElem?_eq_some_iff.1 h1
                obtain ⟨l2, e2⟩ := List.getElem?_eq_some_iff.1 HYY.out
                have := nodup_inj HND.out l1 l2 (e1.trans e2.symm)
                omega
              have HNIN := Lib.hid (decide_eq_false hnin)
              have hmt : ∀ n, Mat (wr.drewN n) (.slice (some ⟨gp, 0, none⟩) k cp) (P.take k).length 1 (lv kvI (P.take k)) := fun n => by
                have hkl : (P.take k).length = k := by rw [List.length_take]; have := HLT.out; omega
                rw [hkl]
                refine ⟨_, cp, rfl, by have := HCAP.out; have := HLT.out; omega, by have h9 := P4.out; obtain ⟨_, _, e9, _, h9⟩ := h9.slice; simp only [Value.slice.injEq, true_and] at e9; omega, fun _ => ⟨gp, 0, rfl, ?_, fun j hj i hi => ?_⟩⟩
                · have h1 := P4.out.lt gp rfl
                  have h2 := HB1.out.size
                  show gp < wr.heap.size
                  omega
                · obtain rfl : i = 0 := by omega
                  obtain ⟨q, hq⟩ : ∃ q, P[j]? = some q := ⟨_, List.getElem?_eq_getElem (by have := HLT.out; omega)⟩
                  rw [lv_at (x := q) (by rw [List.getElem?_take, if_pos hj]; exact hq), show 0 + j * 1 + 0 = j by omega]
                  exact CP.out _ HB1.out j q hq
              have HMT := Lib.hid hmt
              have z3 := CP.out _ HB1.out k y HYY.out
              have hcap9 : (k : Int) ≤ (cp : Int) := by have := HCAP.out; have := HLT.out; omega
              clear hmt hnin hltt
              go_wp2
              go_quiet (first | exact Calls.quiet_of_same (inR_any (P.take k) _ y _ (HMT.out _) (by rw [List.length_take]; have := HPL.out; omega)))
              rw [HNIN.out]
              go_wp2
              have NB := Lib.hid (Go.Bas.below_drewN HB1.out nq)
              go_roundw
              case rel => first | exact ⟨k + 1, by omega, by have := HLT.out; omega, by go_num, NB.out⟩ | ((repeat apply Exists.intro); exact ⟨⟨k + 1, by omega, by have := HLT.out; omega, by go_num, NB.out⟩, rfl⟩)
              case measure => have := HLT.out; simp [intOf]; omega
        · obtain rfl : k = P.length := by omega
          have B9 := Lib.hid (later HB.out B4.out HBe.out)
          go_wp2
          go_ret
          exact ⟨rfl, B9.out⟩
    · have h1' : ¬ (1 : Int) < (P.length : Int) := by omega
      have H3 := Lib.hid (show P.length = 1 by omega)
      clear honly hp0f h1
      go_wp2
      go_loopw [10] (fun i wr => ∃ k : Nat, 1 ≤ k ∧ i = .int .i64 k ∧ Below w4.heap.size w4 wr) (fun i _ => P.length - (intOf i).toNat)
      case atStart => exact ⟨1, Nat.le_refl _, rfl, Below.refl _ _⟩
      case round =>
        obtain ⟨k, hk1, rfl, hBe⟩ := hrel
        have B9 := Lib.hid (later HB.out B4.out hBe)
        have hkl : ¬ (k : Int) < (P.length : Int) := by have := H3.out; omega
        clear hBe
        go_wp2
        go_ret
        exact ⟨rfl, B9.out⟩
end Go.Proofs.Ytlmdgmgbijfaoaa
