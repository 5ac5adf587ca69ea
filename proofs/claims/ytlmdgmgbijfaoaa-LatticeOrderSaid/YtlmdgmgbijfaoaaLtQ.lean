/-
  LatticeOrder: every node precedes the nodes that it leads to. Conditions: named in each theorem.
-/
import Derived.Test.YtlmdgmgbijfaoaaLtP
set_option linter.unusedVariables false
set_option linter.unusedSimpArgs false
namespace Go.Proofs.Ytlmdgmgbijfaoaa
open Go.RowKit Go.Bas Go.ChangeShapes Go.Maps
attribute [local go_sem ↓] Go.wp_at_zero Go.wp_at_succ
set_option maxRecDepth 100000 in
set_option maxHeartbeats 3200000 in
theorem latticeOrder_law (w : World) (v0 : Value) (L : List (Int × Int)) (hv0 : Mat w v0 L.length 2 (pv L)) (hL : ∀ e, e ∈ L → okI e.1 ∧ okI e.2) (v1 : Value) (T : List (ByteArray × ByteArray)) (hv1 : Mat w v1 T.length 2 (tv T)) (hT : ∀ e, e ∈ T → e.1.size ≤ maxLen ∧ e.2.size ≤ maxLen) :
    Calls Try.prog 10 #[v0, v1] w fun e w' => e = .returned (.bool true) ∧ Below w.heap.size w w' := by
  obtain ⟨B, hB⟩ : ∃ x, x = w.heap.size := ⟨_, rfl⟩
  have HB := Lib.hid hB
  have HV0 := Lib.hid hv0
  have HL := Lib.hid hL
  have HT : Hid (∀ e, e ∈ T → okS e.1 ∧ okS e.2) := Lib.hid fun e he => by have := hT e he; unfold maxLen at this; exact this
  obtain ⟨a0, c0, rfl, hc0, hc0', hcell0⟩ := hv0
  obtain ⟨a1, c1, rfl, hc1, hc1', hcell1⟩ := hv1
  have C1 := Lib.hid hcell1
  rw [← hB]
  clear hL hT hcell0 hcell1 hB
  go_enter Try.func10, Try.ntmps10
  go_wp2_with fail
  refine (awake26 w).mono ?_
  rintro e w1 ⟨rfl, b1⟩
  have B1 : Hid (Below B w w1) := by rw [HB.out]; exact b1
  clear b1
  go_wp2_with fail
  refine (lenI_nil w1).mono ?_
  rintro e w' ⟨rfl, rfl⟩
  go_wp2_with fail
  refine (edgeI_nil _ 1 2).mono ?_
  rintro e w' ⟨rfl, rfl⟩
  go_wp2_with fail
  have hb2 : Below w'.heap.size w' (w'.alloc (.cells #[.int .i64 5, .int .i64 5] 3)) := (Below.refl _ _).alloc (Nat.le_refl _) _
  refine (reachI_nil [5, 5] _ _ (mat_lit (e := 3) (L := [5, 5]) rfl (by decide) (fun j x hx => by
    match j with
    | 0 => simp at hx; subst hx; rfl
    | 1 => simp at hx; subst hx; rfl
    | j + 2 => simp at hx)) (fun x hx => by simp at hx; subst hx; exact okI_small (by decide) (by decide)) (by decide)).mono ?_
  rintro e w2 ⟨v5, rfl, h5, b2⟩
  rw [show (seqI [(5 : Int), 5]).1 = [5] by decide] at h5
  have H5 := Lib.hid h5
  have B2 := Lib.hid (laterB HB.out B1.out (hb2.trans (b2.mono hb2.size)))
  obtain ⟨a5, c5, rfl, _⟩ := h5.slice
  clear h5 b2 hb2
  go_wp2_with fail
  have hb3 : Below w2.heap.size w2 (w2.alloc (.cells #[.int .i64 5] 3)) := (Below.refl _ _).alloc (Nat.le_refl _) _
  refine (ints_any [5] [5] _ _ _ (H5.out.below hb3).mat (mat_lit (e := 3) (L := [5]) rfl (by decide) (fun j x hx => by
    match j with
    | 0 => simp at hx; subst hx; rfl
    | j + 1 => simp at hx)) (by decide)).mono ?_
  rintro e w3 ⟨rfl, b3⟩
  rw [show decide (([5] : List Int) = [5]) = true by decide]
  have B3 := Lib.hid (laterB HB.out B2.out (hb3.trans (b3.mono hb3.size)))
  clear b3 hb3
  by_cases h40 : 30 < L.length
  · have h40' : (30 : Int) < L.length := by omega
    go_wp2
    go_ret
    exact ⟨rfl, B3.out⟩
  have h40' : ¬ (30 : Int) < L.length := by omega
  by_cases h20 : 30 < T.length
  · have h20' : (30 : Int) < T.length := by omega
    go_wp2
    go_ret
    exact ⟨rfl, B3.out⟩
  have h20' : ¬ (30 : Int) < T.length := by omega
  have hol := onceL_len L
  have HLL := Lib.hid (show L.length ≤ 40 by omega)
  have HTL := Lib.hid (show T.length ≤ 40 by omega)
  have HOL := Lib.hid (show (onceL L).length ≤ 40 by omega)
  clear hol h40 h20
  go_wp2_with fail
  refine (graph_any L _ w3 (HV0.out.below (HB.out ▸ B3.out)) HL.out (by have := HLL.out; omega)).mono ?_
  rintro e w4 ⟨p, F, rfl, hg, b4⟩
  have HG := Lib.hid hg
  have B4 := Lib.hid (laterB HB.out B3.out b4)
  clear hg b4
  go_wp2_with fail
  refine (order_any HG.out (by have := HOL.out; omega)).mono ?_
  rintro e w5 ⟨va, ba, rfl, ha, b5⟩
  obtain ⟨ea, ha2⟩ := ha.parts
  clear ha
  subst ea
  have HA := Lib.hid ha2
  have B5 := Lib.hid (laterB HB.out B4.out b5)
  obtain ⟨aa, ca, rfl, _⟩ := ha2.slice
  clear ha2 b5
  go_wp2_with fail
  refine (onceR_any L _ w5 (HV0.out.below (HB.out ▸ B5.out)) (by have := HLL.out; omega)).mono ?_
  rintro e w6 ⟨vo, rfl, ho, _, b6⟩
  have HO := Lib.hid ho
  have A6 := Lib.hid (HA.out.below b6)
  have B6 := Lib.hid (laterB HB.out B5.out b6)
  obtain ⟨ao, co, rfl, _⟩ := ho.slice
  obtain ⟨E, hE⟩ : ∃ E, E = onceL L := ⟨_, rfl⟩
  rw [← hE] at HO A6 HOL ⊢
  clear ho b6 hE HG
  go_wp2_with fail
  refine (orderR_any E _ w6 HO.out.mat (by have := HOL.out; omega)).mono ?_
  rintro e w7 ⟨vb, bb, rfl, hb, b7⟩
  obtain ⟨eb, hb9⟩ := hb.parts
  clear hb
  subst eb
  have HBB := Lib.hid hb9
  have A7 := Lib.hid (A6.out.below b7)
  have B7 := Lib.hid (laterB HB.out B6.out b7)
  obtain ⟨ab, cb, rfl, _⟩ := hb9.slice
  obtain ⟨OL, hOL⟩ : ∃ l, l = ordL E := ⟨_, rfl⟩
  obtain ⟨OB, hOB⟩ : ∃ l, l = ordB E := ⟨_, rfl⟩
  have HOLL : Hid (OL.length ≤ 1000) := Lib.hid (by rw [hOL]; have := ordL_len E; have := HOL.out; omega)
  rw [← hOL] at A7 HBB ⊢
  rw [← hOB]
  have hbn : (OB != OB) = false := by simp
  clear hb9 b7 hOL hOB
  go_wp2_with fail
  refine (ints_any OL OL _ _ _ A7.out.mat HBB.out.mat (by have := HOLL.out; omega)).mono ?_
  rintro e w8 ⟨rfl, b8⟩
  rw [decide_eq_true rfl]
  have B8 := Lib.hid (laterB HB.out B7.out b8)
  clear b8
  go_wp2_with fail
  refine (newGES_any w8).mono ?_
  rintro e w9 ⟨p2, F2, rfl, hg2, b9⟩
  obtain ⟨B2', hB2'⟩ : ∃ x, x = w8.heap.size := ⟨_, rfl⟩
  rw [← hB2'] at hg2 b9
  have HB2 := Lib.hid hB2'
  have G9 := Lib.hid hg2
  have HB9 := Lib.hid b9
  clear hg2 b9 hB2'
  go_wp2
  go_loopw [81] (fun i wr => ∃ k : Nat, k ≤ T.length ∧ i = .int .i64 k ∧ (∃ F, GES B2' wr p2 F (onceL (T.take k))) ∧ Below B2' w8 wr) (fun i _ => T.length - (intOf i).toNat)
  case atStart => exact ⟨0, Nat.zero_le _, rfl, ⟨F2, G9.out⟩, HB9.out⟩
  case round =>
    obtain ⟨k, hk, rfl, ⟨F1, hG⟩, hBe⟩ := hrel
    have HG := Lib.hid hG
    have HBe := Lib.hid hBe
    have BW := Lib.hid (laterB HB.out B8.out (HB2.out ▸ HBe.out))
    clear hG hBe
    by_cases hlt : k < T.length
    · obtain ⟨b, o, rfl, hb, hc⟩ := C1.out (by omega)
      obtain ⟨⟨x, y⟩, hxy⟩ : ∃ e, T[k]? = some e := ⟨_, List.getElem?_eq_getElem hlt⟩
      have HCL : Hid (∀ i, i < 2 → wr.cell? ⟨b, o + k * 2 + i, none⟩ = some (tv T k i)) := fun i hi => (BW.out.cell (p := ⟨b, o + k * 2 + i, none⟩) (HB.out ▸ hb)).trans (hc k hlt i hi)
      have HOC : Hid (∀ i, i < 2 → (tv T k i).oneCell' = true) := fun i hi => by rw [tv_at hxy]; rfl
      have HXY := Lib.hid hxy
      have hk9 : (k : Int) < 1000000 := by have := HTL.out; omega
      have HKL := Lib.hid hlt
      clear hc hxy
      go_upto_region 17 with (first | (refine load_row rfl rfl rfl Try.underlying81 rfl Try.sizeT HCL.out ?_) | (refine store_rowV rfl 81 _ _ rfl wr.heap.size 2 (tv T k) _ 81 (heap_alloc_new _ _) rfl Try.sizeT rfl rfl HOC.out ?_))
      refine wp_world (fun w5 => RowN w5 wr.heap.size 2 81 (tv T k) ∧ Below wr.heap.size wr w5) ⟨RowN.setRow (heap_alloc_new _ _), below_setRow' ((Below.refl _ _).alloc (Nat.le_refl _) _) (Nat.le_refl _) _⟩ ?_
      rintro w15 ⟨hr5, hb5⟩
      have e0 := hr5.2 0 (by decide)
      have e1 := hr5.2 1 (by decide)
      rw [tv_at HXY.out, if_pos rfl] at e0
      rw [tv_at HXY.out, if_neg (by decide)] at e1
      have HOKX := Lib.hid (HT.out _ (List.mem_of_getElem? HXY.out))
      have G5 := Lib.hid (HG.out.below hb5)
      have B5 := Lib.hid (HBe.out.trans (hb5.mono (by have := HBe.out.size; have := HB2.out; omega)))
      have HSZ := Lib.hid (show B2' ≤ w15.heap.size by have := B5.out.size; have := HB2.out; omega)
      clear hr5 hb5 HCL
      go_wp2_with fail
      refine (edgeS_any G5.out HSZ.out x y HOKX.out.1 HOKX.out.2 (Nat.le_trans (onceL_len _) (by have := HTL.out; rw [List.length_take]; omega))).mono ?_
      rintro e w16 ⟨rfl, F', hg6, hc6, _⟩
      have HG6 : Hid (∃ F, GES B2' w16 p2 F (onceL (T.take (k + 1)))) := by
        refine ⟨F', ?_⟩
        rw [List.take_add_one, HXY.out]
        exact (onceL_snoc (T.take k) (x, y)).symm ▸ hg6
      have HB6 := Lib.hid (B5.out.trans (hc6.below HSZ.out fun b hb => G5.out.hi hb))
      clear hg6 hc6
      go_wp2
      go_roundw
      case rel => first | exact ⟨k + 1, by omega, by go_num, HG6.out, HB6.out⟩ | ((repeat apply Exists.intro); exact ⟨⟨k + 1, by omega, by go_num, HG6.out, HB6.out⟩, rfl⟩)
      case measure => have := HKL.out; simp [intOf]; omega
    · obtain rfl : k = T.length := by omega
      obtain ⟨F9, hF9⟩ : ∃ F, GES B2' wr p2 F (onceL T) := by have := HG.out; rw [List.take_length] at this; exact ⟨_, this⟩
      have HEM : Hid (∀ e, e ∈ onceL T ↔ e ∈ T) := fun e => mem_onceL
      have HOT := Lib.hid (onceL_len T)
      obtain ⟨ET, hET⟩ : ∃ E, E = onceL T := ⟨_, rfl⟩
      rw [← hET] at hF9 HEM HOT
      have HF9 := Lib.hid hF9
      obtain ⟨A, hA⟩ : ∃ A, A = (⟨#[97]⟩ : ByteArray) := ⟨_, rfl⟩
      have HAA := Lib.hid hA
      have HOKA : Hid (okS A) := Lib.hid (by rw [hA]; show (1 : Nat) ≤ _; decide)
      obtain ⟨SA, hSA⟩ : ∃ S, S = (srch ET [A]).1 := ⟨_, rfl⟩
      have HSB : Hid (SA.length ≤ 100) := Lib.hid (by have := srch_bound ET [A]; rw [← hSA, List.length_singleton] at this; have := HOT.out; have := HTL.out; omega)
      have HS0 : Hid (SA[0]? = some A) := Lib.hid (by rw [hSA]; exact srch_first)
      have HSA := Lib.hid hSA
      clear hF9 hET hA hSA
      have HR := Lib.hid (reachS_any (HF9.out.below ((Below.refl _ _).alloc (Nat.le_refl _) (.cells #[.string ⟨#[97]⟩] 9))) [A] _ (by rw [HAA.out]; exact mat_one (kv := kvS) ⟨#[97]⟩) (fun x hx => by rw [List.mem_singleton] at hx; rw [hx]; exact HOKA.out) (by simp) (by have := HOT.out; have := HTL.out; omega))
      rw [← HSA.out] at HR
      go_wp2_with fail
      refine HR.out.mono ?_
      rintro e w20 ⟨vm, rfl, hm, _, b20⟩
      have HM := Lib.hid hm
      have b20' := ((Below.refl wr.heap.size wr).alloc (Nat.le_refl _) (.cells #[.string ⟨#[97]⟩] 9)).trans (b20.mono (by rw [World.size_alloc]; omega))
      have G20 := Lib.hid (HF9.out.below b20')
      have B20 := Lib.hid (laterB HB.out BW.out b20')
      obtain ⟨am, cm, rfl, _⟩ := hm.slice
      clear hm b20 b20' HR
      go_wp2
      go_loopw [98] (fun i wq => ∃ k : Nat, k ≤ SA.length ∧ i = .int .i64 k ∧ Below w20.heap.size w20 wq) (fun i _ => SA.length - (intOf i).toNat)
      case atStart => exact ⟨0, Nat.zero_le _, rfl, Below.refl _ _⟩
      case round =>
        obtain ⟨k, hk, rfl, hBq⟩ := hrel
        have HBq := Lib.hid hBq
        clear hBq
        rename World => w21
        by_cases hlt : k < SA.length
        · obtain ⟨s, hs⟩ : ∃ s, SA[k]? = some s := ⟨_, List.getElem?_eq_getElem hlt⟩
          have HS := Lib.hid hs
          have hin : s ∈ (srch ET [A]).1 := by rw [← HSA.out]; exact List.mem_of_getElem? hs
          have hokin : ∀ x, x ∈ (srch ET [A]).1 → okS x := srch_least (fun x hx => by rw [List.mem_singleton] at hx; rw [hx]; exact HOKA.out) fun x y _ he => (HT.out _ ((HEM.out _).1 he)).2
          obtain ⟨gm, cm', em, hrm, _, _, hcm⟩ := (HM.out.below HBq.out).form (by omega)
          simp only [Value.slice.injEq, true_and] at em
          obtain ⟨rfl, rfl⟩ := em
          have z0 := hcm k hlt 0 (by decide)
          rw [show k * 1 + 0 = k by omega, lv_at hs] at z0
          have hk9 : (k : Int) < 1000000 := by have := HSB.out; omega
          have HP := Lib.hid (pathS_any ((G20.out.below HBq.out).below ((Below.refl _ _).alloc (Nat.le_refl _) (.cells #[.string ⟨#[97]⟩] 9))) s [A] _ (by rw [HAA.out]; exact mat_one (kv := kvS) ⟨#[97]⟩) (fun x hx => by rw [List.mem_singleton] at hx; rw [hx]; exact HOKA.out) (by simp) (by have := HOT.out; have := HTL.out; omega))
          have hw := way_first hin
          have hwl := way_len (E := ET) (a := A) (to := s)
          have HIN := Lib.hid hin
          obtain ⟨WT, hWT⟩ : ∃ l, l = wayTo (srch ET [A]) s := ⟨_, rfl⟩
          rw [← hWT] at HP hw hwl
          have HW := Lib.hid hw
          have HWL : Hid (WT.length ≤ 100) := Lib.hid (by have := HOT.out; have := HTL.out; omega)
          have HKL := Lib.hid hlt
          clear hw hwl hWT hcm hs hin hokin
          go_wp2_with fail
          refine HP.out.mono ?_
          rintro e w22 ⟨vp, okp, rfl, hok, hp, b22⟩
          obtain rfl : okp = true := hok.2 HIN.out
          have b22' := ((Below.refl w21.heap.size w21).alloc (Nat.le_refl _) (.cells #[.string ⟨#[97]⟩] 9)).trans (b22.mono (by rw [World.size_alloc]; omega))
          have HB22 := Lib.hid (HBq.out.trans (b22'.mono HBq.out.size))
          obtain ⟨hw0, hwl, hw1⟩ := HW.out
          obtain ⟨gp, cp', ep, hrp, hcp, _, hcellp⟩ := hp.form (by omega)
          subst ep
          have z0 := hcellp 0 (by omega) 0 (by decide)
          rw [show 0 * 1 + 0 = 0 by omega, lv_at hw0, HAA.out] at z0
          have zl := hcellp (WT.length - 1) (by omega) 0 (by decide)
          rw [show (WT.length - 1) * 1 + 0 = WT.length - 1 by omega, lv_at hwl] at zl
          have hl8 : (0 : Int) < (WT.length : Int) := by omega
          have hwr : IntKind.i64.wrap ((WT.length : Int) - 1) = (WT.length : Int) - 1 := by have := HWL.out; exact wrap_i64_id (by omega) (by omega)
          obtain ⟨pl, hpl⟩ : ∃ pl : Nat, pl = WT.length - 1 := ⟨_, rfl⟩
          have hpl2 : (WT.length : Int) - 1 = (pl : Int) := by omega
          rw [← hpl] at zl
          rw [hpl2] at hwr
          have hpl3 : (pl : Int) < (WT.length : Int) := by omega
          have hss : (s.toList != s.toList) = false := by simp
          clear hcellp hrp hw0 hwl hw1 hp hok b22 b22' hpl HP
          have HP0 : Hid (k = 0 → s.toList = (⟨#[97]⟩ : ByteArray).toList) := Lib.hid fun hk0 => by
            have h1 := HS.out
            rw [hk0, HS0.out] at h1
            rw [← Option.some.inj h1, HAA.out]
          have HKK : (((k : Int) == 0) = true ∧ s.toList = (⟨#[97]⟩ : ByteArray).toList) ∨ ((k : Int) == 0) = false := by
            by_cases hk0 : k = 0
            · exact .inl ⟨by simpa using hk0, HP0.out hk0⟩
            · exact .inr (by simpa using hk0)
          rcases HKK with ⟨hk1, hsn⟩ | hk1
          all_goals
            go_upto_region 27 with (fail)
            clear hk1 z0 zl hl8 hwr hpl2 hpl3 hss
            first | clear hsn | skip
            go_wp2
            go_loopw [138] (fun i wq => ∃ m : Nat, m ≤ T.length ∧ i = .int .i64 m ∧ Below w22.heap.size w22 wq) (fun i _ => T.length - (intOf i).toNat)
            case atStart => exact ⟨0, Nat.zero_le _, rfl, Below.refl _ _⟩
            case round =>
              obtain ⟨m, hm, rfl, hBr⟩ := hrel
              have HBr := Lib.hid hBr
              have HBR := Lib.hid (HB22.out.trans (hBr.mono HB22.out.size))
              have BWW := Lib.hid (laterB HB.out B20.out HBR.out)
              clear hBr
              rename World => w26
              by_cases hmt : m < T.length
              · obtain ⟨b, o, rfl, hb, hc⟩ := C1.out (by omega)
                obtain ⟨⟨x, y⟩, hxy⟩ : ∃ e, T[m]? = some e := ⟨_, List.getElem?_eq_getElem hmt⟩
                have HCL : Hid (∀ i, i < 2 → w26.cell? ⟨b, o + m * 2 + i, none⟩ = some (tv T m i)) := fun i hi => (BWW.out.cell (p := ⟨b, o + m * 2 + i, none⟩) (HB.out ▸ hb)).trans (hc m hmt i hi)
                have HOC : Hid (∀ i, i < 2 → (tv T m i).oneCell' = true) := fun i hi => by rw [tv_at hxy]; rfl
                have HXY := Lib.hid hxy
                have hm9 : (m : Int) < 1000000 := by have := HTL.out; omega
                have HML := Lib.hid hmt
                clear hc hxy
                go_upto_region 30 with (first | (refine load_row rfl rfl rfl Try.underlying81 rfl Try.sizeT HCL.out ?_) | (refine store_rowV rfl 81 _ _ rfl w26.heap.size 2 (tv T m) _ 81 (heap_alloc_new _ _) rfl Try.sizeT rfl rfl HOC.out ?_))
                refine wp_world (fun w5 => RowN w5 w26.heap.size 2 81 (tv T m) ∧ Below w26.heap.size w26 w5) ⟨RowN.setRow (heap_alloc_new _ _), below_setRow' ((Below.refl _ _).alloc (Nat.le_refl _) _) (Nat.le_refl _) _⟩ ?_
                rintro w25 ⟨hr5, hb5⟩
                have e0 := hr5.2 0 (by decide)
                have e1 := hr5.2 1 (by decide)
                rw [tv_at HXY.out, if_pos rfl] at e0
                rw [tv_at HXY.out, if_neg (by decide)] at e1
                have E1 := Lib.hid e1
                have HRL := Lib.hid hr5.1.lt
                have HBn := Lib.hid (HBr.out.trans (hb5.mono HBr.out.size))
                have M25 := Lib.hid (HM.out.below (HBR.out.trans (hb5.mono HBR.out.size)))
                clear hr5 hb5 HCL
                by_cases hxs : x = s
                · have HYIN : Hid (y ∈ SA) := Lib.hid (by rw [HSA.out]; exact srch_closed (x := s) (by rw [← HSA.out]; exact List.mem_of_getElem? HS.out) ((HEM.out _).2 (by rw [← hxs]; exact List.mem_of_getElem? HXY.out)))
                  subst hxs
                  clear e1
                  go_wp2
                  go_loopw [148, 22] (fun i inn wq => ∃ q : Nat, q ≤ SA.length ∧ i = .int .i64 q ∧ inn = .bool (inB y (SA.take q)) ∧ Below w25.heap.size w25 wq) (fun i _ _ => SA.length - (intOf i).toNat)
                  case atStart => exact ⟨0, Nat.zero_le _, rfl, rfl, Below.refl _ _⟩
                  case round =>
                    obtain ⟨q, hq, rfl, rfl, hB7⟩ := hrel
                    have HB7 := Lib.hid hB7
                    clear hB7
                    by_cases hql : q < SA.length
                    · obtain ⟨z, hz⟩ : ∃ z, SA[q]? = some z := ⟨_, List.getElem?_eq_getElem hql⟩
                      obtain ⟨gm', cm'', em, _, _, _, hcm⟩ := (M25.out.below HB7.out).form (by omega)
                      simp only [Value.slice.injEq, Option.some.injEq, Addr.mk.injEq, and_true, true_and] at em
                      obtain ⟨rfl, rfl⟩ := em
                      have z0 := hcm q hql 0 (by decide)
                      rw [show q * 1 + 0 = q by omega, lv_at hz] at z0
                      have e1 := (HB7.out.cell (p := ⟨w26.heap.size, 1, none⟩) HRL.out).trans E1.out
                      have hq9 : (q : Int) < 1000000 := by have := HSB.out; omega
                      have HQL := Lib.hid hql
                      have HMT := Lib.hid (inB_succ (y := y) hz)
                      clear hcm hz
                      cases hmm : inB y (SA.take q) with
                      | true =>
                        have HN : Hid (true = inB y (SA.take (q + 1))) := Lib.hid (by rw [HMT.out, hmm]; rfl)
                        clear hmm
                        go_wp2
                        go_roundw
                        case rel => first | exact ⟨q + 1, by have := HQL.out; omega, by go_num, congrArg Value.bool HN.out, HB7.out⟩ | ((repeat apply Exists.intro); exact ⟨⟨q + 1, by have := HQL.out; omega, by go_num, congrArg Value.bool HN.out, HB7.out⟩, rfl⟩)
                        case measure => have := HQL.out; simp [intOf]; omega
                      | false =>
                        have HN : Hid ((z.toList == y.toList) = inB y (SA.take (q + 1))) := Lib.hid (by rw [HMT.out, hmm]; rfl)
                        clear hmm
                        go_wp2
                        go_roundw
                        case rel => first | exact ⟨q + 1, by have := HQL.out; omega, by go_num, congrArg Value.bool HN.out, HB7.out⟩ | ((repeat apply Exists.intro); exact ⟨⟨q + 1, by have := HQL.out; omega, by go_num, congrArg Value.bool HN.out, HB7.out⟩, rfl⟩)
                        case measure => have := HQL.out; simp [intOf]; omega
                    · obtain rfl : q = SA.length := by omega
                      rw [List.take_length, inB_mem HYIN.out]
                      have HBx := Lib.hid (HBn.out.trans (HB7.out.mono HBn.out.size))
                      go_wp2
                      go_roundw
                      case rel => first | exact ⟨m + 1, by have := HML.out; omega, by go_num, HBx.out⟩ | ((repeat apply Exists.intro); exact ⟨⟨m + 1, by have := HML.out; omega, by go_num, HBx.out⟩, rfl⟩)
                      case measure => have := HML.out; simp [intOf]; omega
                · have hq : (x.toList == s.toList) = false := bytesNo hxs
                  clear hxs
                  go_wp2
                  go_roundw
                  case rel => first | exact ⟨m + 1, by have := HML.out; omega, by go_num, HBn.out⟩ | ((repeat apply Exists.intro); exact ⟨⟨m + 1, by have := HML.out; omega, by go_num, HBn.out⟩, rfl⟩)
                  case measure => have := HML.out; simp [intOf]; omega
              · obtain rfl : m = T.length := by omega
                go_wp2
                go_roundw
                case rel => first | exact ⟨k + 1, by have := HKL.out; omega, by go_num, HBR.out⟩ | ((repeat apply Exists.intro); exact ⟨⟨k + 1, by have := HKL.out; omega, by go_num, HBR.out⟩, rfl⟩)
                case measure => have := HKL.out; simp [intOf]; omega
        · obtain rfl : k = SA.length := by omega
          have hl0 : (0 : Int) < (SA.length : Int) := by have := (List.getElem?_eq_some_iff.1 HS0.out).1; omega
          have BF := Lib.hid (laterB HB.out B20.out HBq.out)
          go_wp2
          go_ret
          rw [show decide (0 < SA.length) = true from decide_eq_true (by omega)]
          exact ⟨rfl, BF.out⟩
end Go.Proofs.Ytlmdgmgbijfaoaa
