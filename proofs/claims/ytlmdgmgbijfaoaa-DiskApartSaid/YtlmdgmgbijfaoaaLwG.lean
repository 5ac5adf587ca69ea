/-
  DiskApart: the law. Conditions: named in each theorem.
-/
import Derived.Test.YtlmdgmgbijfaoaaLwF
set_option linter.unusedVariables false
set_option linter.unusedSimpArgs false
namespace Go.Proofs.Ytlmdgmgbijfaoaa
open Go.RowKit Go.Bas Go.ChangeShapes
attribute [local go_sem ↓] Go.wp_at_zero Go.wp_at_succ
set_option maxRecDepth 100000 in
set_option maxHeartbeats 3200000 in
theorem diskApart_law (w : World) (v0 : Value) (m0 : Nat) (kd0 nn0 : Nat → Int) (lens0 : Nat → Nat) (g0 : Nat → Nat → Int) (hd0 : Dos w v0 m0 kd0 nn0 lens0 g0) (hb0 : DosB m0 kd0 nn0 lens0 g0)
    (v1 : Value) (m1 : Nat) (kd1 nn1 : Nat → Int) (lens1 : Nat → Nat) (g1 : Nat → Nat → Int) (hd1 : Dos w v1 m1 kd1 nn1 lens1 g1) (hb1 : DosB m1 kd1 nn1 lens1 g1)
    (v2 : Value) (m2 : Nat) (kd2 nn2 : Nat → Int) (lens2 : Nat → Nat) (g2 : Nat → Nat → Int) (hd2 : Dos w v2 m2 kd2 nn2 lens2 g2) (hb2 : DosB m2 kd2 nn2 lens2 g2) :
    Calls Try.prog 6 #[v0, v1, v2] w fun e w' => e = .returned (.bool true) ∧ Below w.heap.size w w' := by
  obtain ⟨B, hB⟩ : ∃ x, x = w.heap.size := ⟨_, rfl⟩
  have HB := Lib.hid hB
  obtain ⟨q0, hq0, hdo0⟩ := hd0
  obtain ⟨q1, hq1, hdo1⟩ := hd1
  obtain ⟨q2, hq2, hdo2⟩ := hd2
  have L0 : Hid (Lst w v0 m0 kd0 nn0 lens0 g0 q0) := ⟨hq0, hdo0, hb0⟩
  have L1 : Hid (Lst w v1 m1 kd1 nn1 lens1 g1 q1) := ⟨hq1, hdo1, hb1⟩
  have L2 : Hid (Lst w v2 m2 kd2 nn2 lens2 g2 q2) := ⟨hq2, hdo2, hb2⟩
  obtain ⟨a0, c0, rfl, hc0⟩ := L0.out.cells hB
  obtain ⟨a1, c1, rfl, hc1⟩ := L1.out.cells hB
  obtain ⟨a2, c2, rfl, hc2⟩ := L2.out.cells hB
  have C0 := Lib.hid hc0
  have C1 := Lib.hid hc1
  have C2 := Lib.hid hc2
  clear hc0 hc1 hc2 hq0 hq1 hq2 hdo0 hdo1 hdo2 hb0 hb1 hb2
  rw [← hB]
  clear hB
  go_enter Try.func6, Try.ntmps6
  go_wp2_with fail
  refine (awake17 w).mono ?_
  rintro e w1 ⟨rfl, b1⟩
  have B1 : Hid (Below B w w1) := by rw [HB.out]; exact b1
  clear b1
  go_wp2_with fail
  refine (few_any _ m0 kd0 nn0 lens0 g0 w1 (L0.out.dos HB.out B1.out)).mono ?_
  rintro e w2 ⟨r0, rfl, hr0, b2⟩
  have B2 := Lib.hid (later HB.out B1.out b2)
  clear b2
  cases r0 with
  | false =>
    go_wp2
    go_ret
    exact ⟨rfl, B2.out⟩
  | true =>
  go_wp2_with fail
  refine (few_any _ m1 kd1 nn1 lens1 g1 w2 (L1.out.dos HB.out B2.out)).mono ?_
  rintro e w3 ⟨r1, rfl, hr1, b3⟩
  have B3 := Lib.hid (later HB.out B2.out b3)
  clear b3
  cases r1 with
  | false =>
    go_wp2
    go_ret
    exact ⟨rfl, B3.out⟩
  | true =>
  go_wp2_with fail
  refine (few_any _ m2 kd2 nn2 lens2 g2 w3 (L2.out.dos HB.out B3.out)).mono ?_
  rintro e w4 ⟨r2, rfl, hr2, b4⟩
  have B4 := Lib.hid (later HB.out B3.out b4)
  clear b4
  cases r2 with
  | false =>
    go_wp2
    go_ret
    exact ⟨rfl, B4.out⟩
  | true =>
  have hm0 : m0 ≤ 40 := (hr0 (by trivial)).1
  have hm1 : m1 ≤ 40 := (hr1 (by trivial)).1
  have hm2 : m2 ≤ 40 := (hr2 (by trivial)).1
  clear hr0 hr1 hr2
  go_wp2_with fail
  refine (dkNew_yes 4 (by decide) (by decide) w4).mono ?_
  rintro e w5 ⟨p, rfl, vk, vn, h5, b5, hp, hvk, hvn⟩
  have H5 := Lib.hid h5
  have B5 := Lib.hid (later HB.out B4.out b5)
  have HP := Lib.hid hp
  have HVK := Lib.hid hvk
  have HVN := Lib.hid hvn
  clear h5 b5 hp hvk hvn
  go_wp2_with fail
  refine (rkNew_any 4 (by decide) w5).mono ?_
  rintro e w6 ⟨q, rfl, rk, uk, ub, h6, b6, hq, hrk⟩
  have B6 := Lib.hid (later HB.out B5.out b6)
  have HT : Hid (TwoB B w6 p q (dskNew 4)) := by
    refine ⟨_, ⟨vk, vn, _, rk, _, uk, ub, H5.out.below b6, h6, fun b => Iff.rfl⟩, fun b hb => ?_⟩
    have s4 := B4.out.size
    have s5 := B5.out.size
    have sB := HB.out
    rcases hb with (rfl | hb | hb | hb) | (rfl | hb | hb)
    · have := HP.out; omega
    · have := HVK.out b hb; omega
    · have := HVN.out b hb; omega
    · cases hb
    · omega
    · have := hrk b hb; omega
    · cases hb
  clear h6 b6 hq hrk HP HVK HVN H5
  go_wp2
  go_loopw [40] (fun i wr => ∃ k : Nat, k ≤ m0 ∧ i = .int .i64 k ∧ Below B w wr ∧ ∃ d, TwoB B wr p q d ∧ d.m ≤ k) (fun i _ => m0 - (intOf i).toNat)
  case atStart => exact ⟨0, Nat.zero_le _, rfl, B6.out, _, HT.out, Nat.zero_le _⟩
  case round =>
    obtain ⟨k, hk, rfl, hBe, d, hT, hdm⟩ := hrel
    have HBe := Lib.hid hBe
    have HTW := Lib.hid hT
    clear hBe hT
    by_cases hlt : k < m0
    · obtain ⟨bb, o, rfl, hcc⟩ := C0.out k hlt
      have HCL := Lib.hid (hcc wr HBe.out)
      have HOC := Lib.hid (L0.out.one hlt)
      clear hcc
      go_upto_region 10 with (first | (refine load_row rfl rfl rfl Try.underlying31 rfl Try.sizeDo HCL.out ?_) | (refine store_rowV rfl 31 _ _ rfl wr.heap.size 3 (q0 k) _ 31 (heap_alloc_new _ _) rfl Try.sizeDo rfl rfl HOC.out ?_))
      refine wp_world (fun w5 => RowN w5 wr.heap.size 3 31 (q0 k) ∧ Below wr.heap.size wr w5) ⟨RowN.setRow (heap_alloc_new _ _), below_setRow' ((Below.refl _ _).alloc (Nat.le_refl _) _) (Nat.le_refl _) _⟩ ?_
      rintro w5 ⟨hr5, hb5⟩
      have HR5 : Hid (∀ i, i < 3 → w5.cell? ⟨wr.heap.size, 0 + i, none⟩ = some (q0 k i)) := fun i hi => by rw [Nat.zero_add]; exact hr5.2 i hi
      have B5 := Lib.hid (later HB.out HBe.out hb5)
      have T5 : Hid (TwoB B w5 p q d) := by
        obtain ⟨F, h1, h2⟩ := HTW.out
        exact ⟨F, h1.below hb5, h2⟩
      clear hr5 hb5 HCL
      go_wp2_with (first | (refine load_row rfl rfl rfl Try.underlying31 rfl Try.sizeDo HR5.out ?_) | fail)
      refine (one_dos HB.out T5.out B5.out L0.out.each L0.out.dosB k hlt (by omega)).mono ?_
      rintro e w6 ⟨rfl, h6, b6⟩
      have T6 := Lib.hid h6
      have B6 := Lib.hid b6
      clear h6 b6
      go_wp2
      go_roundw
      case rel => exact ⟨k + 1, by omega, by go_num, B6.out, _, T6.out, Nat.le_trans (Dsk.does_n _ _ _ _).2 (by omega)⟩
      case measure => simp [intOf]; omega
    · obtain rfl : k = m0 := by omega
      have hdm' := Lib.hid (show d.m ≤ 40 by omega)
      obtain ⟨F, ⟨vk, vn, vw, rk, rw, uk, ub, h1, h2, hFe⟩, hFB⟩ := HTW.out
      obtain ⟨ark, crk, rfl, _⟩ := h2.kept.slice
      obtain ⟨arw, crw, rfl, _⟩ := h2.wait.slice
      have H1 := Lib.hid h1
      have H2 := Lib.hid h2
      have HFE := Lib.hid hFe
      have HFB := Lib.hid hFB
      clear h1 h2 hFe hFB hlt HTW HT B1 B2 B3 B4 B5 B6
      go_upto_region 13 with (fail)
      apply region_earlyJ' (n := 122) (fun w5 => Below wr.heap.size wr w5) [.e, .e, .e, .e, .e, .e, .e, .e, .e, .e, .e, .e, .e, .c, .c] 0 (by kernel_rfl) (by kernel_rfl) (by kernel_rfl) rfl
      · exact (Below.refl _ _).drew
      · intro w5 hB5
        have e2 := (H2.out.below hB5).cf
        have e3 := (H2.out.below hB5).co
        have e4 := (H2.out.below hB5).cl
        simp only [selBy, Cl.isE, cond_true, cond_false]
        repeat still_step
        exact wpStill_nil rfl
      · intro w5
        simp only [selBy, Cl.isF, cond_true, cond_false]
        repeat still_step
        exact wpStill_nil rfl
      · simp only [selBy, Cl.isC, cond_true, cond_false]
        refine chJ_zero ?_
        go_wp2
        refine onlyN ?_
        go_upto_region 14 with (fail)
        refine wp_world (fun w7 => YAt w7 wr.heap.size (.slice none 0 0) (.slice none 0 0) d ∧ Below wr.heap.size wr w7) ⟨YAt.made.same rfl, ((Below.refl _ _).alloc (Nat.le_refl _) _).drew⟩ ?_
        rintro w7 ⟨y7, b7⟩
        have Y7 := Lib.hid y7
        have B7 := Lib.hid b7
        have HBX := Lib.hid (show B ≤ wr.heap.size by have := HBe.out.size; have := HB.out; omega)
        clear y7 b7
        obtain ⟨y, hy⟩ : ∃ y, y = wr.heap.size := ⟨_, rfl⟩
        rw [← hy] at Y7 ⊢
        have HY := Lib.hid hy
        clear hy
        apply region_early' (n := 122) [.f, .e, .e, .e, .e, .e, .e, .e, .e, .c, .f, .f, .c] 0 (by kernel_rfl) (by kernel_rfl) (by kernel_rfl) rfl
        · intro w8 hB8
          have e0 := (Y7.out.same (hB8.block y Y7.out.row.lt)).ck
          have e1 := (H2.out.below (B7.out.trans (hB8.mono B7.out.size))).ck
          simp only [selBy, Cl.isE, cond_true, cond_false]
          repeat still_step
          exact wpStill_nil rfl
        · intro w8
          simp only [selBy, Cl.isF, cond_true, cond_false]
          repeat still_step
          exact wpStill_nil rfl
        · simp only [selBy, Cl.isC, cond_true, cond_false]
          refine chW_zero ?_
          have K7 := H2.out.kept.below (B7.out.trans ((Below.refl w7.heap.size w7).drew.mono B7.out.size))
          refine wpList_append_ow rfl _ _ rfl rfl (OwM.nil 23 1 _ (fun _ _ => undef)) (by decide) Try.underlying35 Try.info23 rfl rfl K7 ?_ ?_ ?_ ?_
          · intro j hj i hi
            exact OwM.one (H2.out.kb j hj)
          · have := H2.out.n1; unfold maxLen; omega
          · have := H2.out.n1; omega
          · intro v' w8 hown hgrow hpl
            rw [Nat.zero_add, catM_zero] at hown
            have Y8 := (Y7.out.same (w' := w7.drew) rfl).same (hgrow.block y Y7.out.row.lt (fun e => by cases e))
            have B8 := Lib.hid (B7.out.trans (((Below.refl w7.heap.size w7).drew.trans (below_grown0 (Below.refl _ _) hgrow (Nat.le_refl _))).mono B7.out.size))
            have HPL : Hid (∀ b, v'.ownBlock = some b → wr.heap.size ≤ b) := fun b hb => by
              rcases placed_feet hpl hb with h | h
              · cases h
              · have h1 : w7.drew.heap.size = w7.heap.size := rfl
                have := B7.out.size; omega
            have e0 := Y8.ck
            have f0 := Y8.row.free 0
            have OW := Lib.hid hown
            have Y8 := Lib.hid Y8
            obtain ⟨av', cv', rfl, _⟩ := hown.slice
            clear hgrow hpl hown K7
            go_wp2
            refine onlyN ?_
            go_upto_region 15 with (fail)
            refine wp_world (fun w9 => YAt w9 y (.slice av' d.n cv') (.slice none 0 0) d ∧ OwM 23 1 w9 (.slice av' d.n cv') d.n (fun j _ => uk j) ∧ Below wr.heap.size wr w9) ⟨Y8.out.set0 _, OW.out.chg (Chg.set (fun b => b = y) _ ⟨y, 0, none⟩ _ rfl) (OW.out.ne Y8.out.row (by decide)), B8.out.setCell (p := ⟨y, 0, none⟩) (by rw [HY.out]; exact Nat.le_refl _) _⟩ ?_
            rintro w9 ⟨y9, o9, b9⟩
            have Y9 := Lib.hid y9
            have O9 := Lib.hid o9
            have B9 := Lib.hid b9
            clear y9 o9 b9 Y8 OW B8 e0 f0
            apply region_early' (n := 122) [.f, .e, .e, .e, .e, .e, .e, .e, .e, .c, .f, .f, .c] 0 (by kernel_rfl) (by kernel_rfl) (by kernel_rfl) rfl
            · intro w8 hB8
              have e0 := (Y9.out.same (hB8.block y Y9.out.row.lt)).cw
              have e1 := (H2.out.below (B9.out.trans (hB8.mono B9.out.size))).cw
              simp only [selBy, Cl.isE, cond_true, cond_false]
              repeat still_step
              exact wpStill_nil rfl
            · intro w8
              simp only [selBy, Cl.isF, cond_true, cond_false]
              repeat still_step
              exact wpStill_nil rfl
            · simp only [selBy, Cl.isC, cond_true, cond_false]
              refine chW_zero ?_
              have K9 := H2.out.wait.below (B9.out.trans ((Below.refl w9.heap.size w9).drew.mono B9.out.size))
              refine wpList_append_ow rfl _ _ rfl rfl (OwM.nil 181 2 _ (fun _ _ => undef)) (by decide) Try.underlying51 Try.info181 rfl rfl K9 ?_ ?_ ?_ ?_
              · intro j hj i hi
                unfold rwC
                split
                · rfl
                · exact OwM.one (H2.out.wb j hj)
              · have := H2.out.m1; unfold maxLen; omega
              · have := H2.out.m1; omega
              · intro v2 w10 hown hgrow hpl
                rw [Nat.zero_add, catM_zero] at hown
                have Y10 := (Y9.out.same (w' := w9.drew) rfl).same (hgrow.block y Y9.out.row.lt (fun e => by cases e))
                have bg : Below w9.heap.size w9 w10 := (Below.refl w9.heap.size w9).drew.trans (below_grown0 (Below.refl _ _) hgrow (Nat.le_refl _))
                have B10 := Lib.hid (B9.out.trans (bg.mono B9.out.size))
                have OA := Lib.hid (O9.out.below bg)
                have HPW : Hid (∀ b, v2.ownBlock = some b → wr.heap.size ≤ b) := fun b hb => by
                  rcases placed_feet hpl hb with h | h
                  · cases h
                  · have h1 : w9.drew.heap.size = w9.heap.size := rfl
                    have := B9.out.size; omega
                have e0 := Y10.cw
                have f0 := Y10.row.free 1
                have OW := Lib.hid hown
                have Y10 := Lib.hid Y10
                obtain ⟨av2, cv2, rfl, _⟩ := hown.slice
                clear hgrow hpl hown K9 bg
                go_wp2
                refine onlyN ?_
                go_upto_region 16 with (fail)
                refine wp_world (fun w11 => RkAt w11 y (.slice av' d.n cv') (.slice av2 d.m cv2) uk ub d ∧ Below wr.heap.size wr w11) ⟨YAt.done H2.out (B10.out.setCell (p := ⟨y, 1, none⟩) (by rw [HY.out]; exact Nat.le_refl _) _) (Y10.out.set1 _) (OA.out.chg (Chg.set (fun b => b = y) _ ⟨y, 1, none⟩ _ rfl) (OA.out.ne Y10.out.row (by decide))) (OW.out.chg (Chg.set (fun b => b = y) _ ⟨y, 1, none⟩ _ rfl) (OW.out.ne Y10.out.row (by decide))), B10.out.setCell (p := ⟨y, 1, none⟩) (by rw [HY.out]; exact Nat.le_refl _) _⟩ ?_
                rintro w11 ⟨r11, b11⟩
                have R11 := Lib.hid r11
                have B11 := Lib.hid b11
                have H11 := Lib.hid (H1.out.below b11)
                clear r11 b11 OA OW Y10 B10 Y9 O9 B9 Y7 B7 e0 f0
                go_wp2_with fail
                refine (dkClone_any H11.out).mono ?_
                rintro e w12 ⟨c, ck', cn', cw', rfl, h12, b12, hc, hck, hcn, hcw⟩
                have FO : Hid (Four B w12 p q c y d d F (fun b => FD c ck' cn' cw' b ∨ FR y (.slice av' d.n cv') (.slice av2 d.m cv2) b)) := by
                  have s1 := B11.out.size
                  have hge : ∀ b, (FD c ck' cn' cw' b ∨ FR y (.slice av' d.n cv') (.slice av2 d.m cv2) b) → wr.heap.size ≤ b := by
                    rintro b ((rfl | hb | hb | hb) | (rfl | hb | hb))
                    · omega
                    · have := hck b hb; omega
                    · have := hcn b hb; omega
                    · have := hcw b hb; omega
                    · rw [HY.out]; exact Nat.le_refl _
                    · exact HPL.out b hb
                    · exact HPW.out b hb
                  have t0 : Two wr p q F d := ⟨_, _, _, _, _, _, _, H1.out, H2.out, HFE.out⟩
                  refine ⟨(t0.below B11.out).below b12, ⟨_, _, _, _, _, _, _, h12, R11.out.below b12, fun b => Iff.rfl⟩, HFB.out, fun b hb => Nat.le_trans HBX.out (hge b hb), fun b hb hb' => ?_⟩
                  have h1 := t0.lt hb
                  have h2 := hge b hb'
                  omega
                have B12 := Lib.hid ((HBe.out.trans (B11.out.mono (HB.out ▸ HBX.out))).trans (b12.mono (by have := HBe.out.size; have := B11.out.size; have := HB.out; omega)))
                obtain ⟨F', hF'⟩ : ∃ F' : Nat → Prop, F' = fun b => FD c ck' cn' cw' b ∨ FR y (.slice av' d.n cv') (.slice av2 d.m cv2) b := ⟨_, rfl⟩
                rw [← hF'] at FO
                clear hF' h12 b12 hc hck hcn hcw R11 B11 H11 HPL HPW H1 H2 HFE HFB HBX HBe HY
                go_wp2
                go_loopw [92] (fun i wr => ∃ k : Nat, k ≤ m1 ∧ i = .int .i64 k ∧ Below B w wr ∧ ∃ d1 G, Four B wr p q c y d1 d G F' ∧ d1.m ≤ 40 + k) (fun i _ => m1 - (intOf i).toNat)
                case atStart => exact ⟨0, Nat.zero_le _, rfl, B12.out, _, _, FO.out, hdm'.out⟩
                case round =>
                  obtain ⟨k1, hk1, rfl, hBe1, d1, G, hT1, hdm1⟩ := hrel
                  have HBe1 := Lib.hid hBe1
                  have HTW1 := Lib.hid hT1
                  clear hBe1 hT1
                  by_cases hlt1 : k1 < m1
                  · obtain ⟨bb, o, rfl, hcc⟩ := C1.out k1 hlt1
                    have HCL := Lib.hid (hcc _ HBe1.out)
                    have HOC := Lib.hid (L1.out.one hlt1)
                    clear hcc
                    go_upto_region 20 with (first | (refine load_row rfl rfl rfl Try.underlying31 rfl Try.sizeDo HCL.out ?_) | (refine store_rowV rfl 31 _ _ rfl _ 3 (q1 k1) _ 31 (heap_alloc_new _ _) rfl Try.sizeDo rfl rfl HOC.out ?_))
                    refine wp_world (fun w5 => RowN w5 _ 3 31 (q1 k1) ∧ Below _ _ w5) ⟨RowN.setRow (heap_alloc_new _ _), below_setRow' ((Below.refl _ _).alloc (Nat.le_refl _) _) (Nat.le_refl _) _⟩ ?_
                    rintro w5 ⟨hr5, hb5⟩
                    have HR5 : Hid (∀ i, i < 3 → w5.cell? ⟨_, 0 + i, none⟩ = some (q1 k1 i)) := fun i hi => by rw [Nat.zero_add]; exact hr5.2 i hi
                    have B5 := Lib.hid (later HB.out HBe1.out hb5)
                    have T5 := Lib.hid (HTW1.out.below hb5)
                    clear hr5 hb5 HCL
                    go_wp2_with (first | (refine load_row rfl rfl rfl Try.underlying31 rfl Try.sizeDo HR5.out ?_) | fail)
                    refine (four_dos HB.out T5.out B5.out L1.out k1 hlt1 (by omega)).mono ?_
                    rintro e w6 ⟨rfl, ⟨G', h6⟩, b6⟩
                    have T6 := Lib.hid h6
                    have B6 := Lib.hid b6
                    clear h6 b6
                    go_wp2
                    go_roundw
                    case rel => exact ⟨k1 + 1, by omega, by go_num, B6.out, _, _, T6.out, Nat.le_trans (Dsk.does_n _ _ _ _).2 (by omega)⟩
                    case measure => simp [intOf]; omega
                  · obtain rfl : k1 = m1 := by omega
                    have FO2 := Lib.hid HTW1.out.swap
                    have hdc : d.m ≤ 40 := hdm'.out
                    clear HTW1 FO B12
                    go_wp2
                    go_loopw [104] (fun i wr => ∃ k : Nat, k ≤ m2 ∧ i = .int .i64 k ∧ Below B w wr ∧ ∃ d2 G2, Four B wr c y p q d2 d1 G2 G ∧ d2.m ≤ 40 + k) (fun i _ => m2 - (intOf i).toNat)
                    case atStart => exact ⟨0, Nat.zero_le _, rfl, HBe1.out, _, _, FO2.out, hdc⟩
                    case round =>
                      obtain ⟨k2, hk2, rfl, hBe2, d2, G2, hT2, hdm2⟩ := hrel
                      have HBe2 := Lib.hid hBe2
                      have HTW2 := Lib.hid hT2
                      clear hBe2 hT2
                      by_cases hlt2 : k2 < m2
                      · obtain ⟨bb, o, rfl, hcc⟩ := C2.out k2 hlt2
                        have HCL := Lib.hid (hcc _ HBe2.out)
                        have HOC := Lib.hid (L2.out.one hlt2)
                        clear hcc
                        go_upto_region 26 with (first | (refine load_row rfl rfl rfl Try.underlying31 rfl Try.sizeDo HCL.out ?_) | (refine store_rowV rfl 31 _ _ rfl _ 3 (q2 k2) _ 31 (heap_alloc_new _ _) rfl Try.sizeDo rfl rfl HOC.out ?_))
                        refine wp_world (fun w5 => RowN w5 _ 3 31 (q2 k2) ∧ Below _ _ w5) ⟨RowN.setRow (heap_alloc_new _ _), below_setRow' ((Below.refl _ _).alloc (Nat.le_refl _) _) (Nat.le_refl _) _⟩ ?_
                        rintro w5 ⟨hr5, hb5⟩
                        have HR5 : Hid (∀ i, i < 3 → w5.cell? ⟨_, 0 + i, none⟩ = some (q2 k2 i)) := fun i hi => by rw [Nat.zero_add]; exact hr5.2 i hi
                        have B5 := Lib.hid (later HB.out HBe2.out hb5)
                        have T5 := Lib.hid (HTW2.out.below hb5)
                        clear hr5 hb5 HCL
                        go_wp2_with (first | (refine load_row rfl rfl rfl Try.underlying31 rfl Try.sizeDo HR5.out ?_) | fail)
                        refine (four_dos HB.out T5.out B5.out L2.out k2 hlt2 (by omega)).mono ?_
                        rintro e w6 ⟨rfl, ⟨G', h6⟩, b6⟩
                        have T6 := Lib.hid h6
                        have B6 := Lib.hid b6
                        clear h6 b6
                        go_wp2
                        go_roundw
                        case rel => exact ⟨k2 + 1, by omega, by go_num, B6.out, _, _, T6.out, Nat.le_trans (Dsk.does_n _ _ _ _).2 (by omega)⟩
                        case measure => simp [intOf]; omega
                      · obtain rfl : k2 = m2 := by omega
                        have T1 := Lib.hid HTW2.out.two
                        clear FO2
                        go_wp2_with fail
                        refine (whole_any T1.out).mono ?_
                        rintro e w13 ⟨rfl, b13⟩
                        have T2 := Lib.hid (HTW2.out.one.below b13)
                        have B13 := Lib.hid (later HB.out HBe2.out b13)
                        clear b13
                        go_wp2_with fail
                        refine (whole_any T2.out).mono ?_
                        rintro e w14 ⟨rfl, b14⟩
                        have B14 := Lib.hid (later HB.out B13.out b14)
                        clear b14
                        go_wp2
                        go_ret
                        exact ⟨rfl, B14.out⟩
end Go.Proofs.Ytlmdgmgbijfaoaa
