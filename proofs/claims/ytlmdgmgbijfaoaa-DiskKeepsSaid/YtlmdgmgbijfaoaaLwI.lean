/-
  DiskFuse: with a fuse of n just so many writes go well. Conditions: named in each theorem.
-/
import Derived.Test.YtlmdgmgbijfaoaaLwH
set_option linter.unusedVariables false
set_option linter.unusedSimpArgs false
namespace Go.Bas
open Go.RowKit
theorem Own.rowB {k : IntKind} {e : TypeId} {base : Nat} {w : World} {v : Value} {n : Nat} {f : Nat → Int} (h : Own k e base w v n f) {b : Nat} (hb : v.ownBlock = some b) : ∃ m, RowB w b e m := by
  rcases h.2 with ⟨hv, _⟩ | ⟨g, cap, cur, hv, _, hg, _⟩
  · rw [hv] at hb; cases hb
  · rw [hv] at hb; cases hb; exact ⟨_, cur, hg, rfl⟩
end Go.Bas
namespace Go.Proofs.Ytlmdgmgbijfaoaa
open Go.RowKit Go.Bas Go.ChangeShapes
attribute [local go_sem ↓] Go.wp_at_zero Go.wp_at_succ
theorem dF_may (n i : Nat) : (dF n i).may 0 = 0 := rfl
theorem dF_write {n i : Nat} (h : i < n) : (dF n i).write 0 64 (fun _ => (i : Int)) = (dF n (i + 1), 0) := by
  rw [Dsk.write_yes (dF_may n i)]
  show (((dF n i).add 0 fun _ => (i : Int)).burn, powE ((dF n i).add 0 fun _ => (i : Int)).burn.off) = _
  rw [dF_step h]
  rfl
set_option maxRecDepth 100000 in
set_option maxHeartbeats 3200000 in
theorem diskFuse_law (w : World) (a : Int) (wa : (Lit.int .u8 a).wf = true) (c : Int) (wc : (Lit.int .u8 c).wf = true) :
    Calls Try.prog 5 #[.int .u8 a, .int .u8 c] w fun e w' => e = .returned (.bool true) ∧ Below w.heap.size w w' := by
  obtain ⟨a0, a1⟩ := wf8 wa
  obtain ⟨hc0, hc1⟩ := wf8 wc
  obtain ⟨n, rfl⟩ := Int.eq_ofNat_of_zero_le a0
  clear wa wc a0
  obtain ⟨B, hB⟩ : ∃ x, x = w.heap.size := ⟨_, rfl⟩
  have HB := Lib.hid hB
  rw [← hB]
  clear hB
  have hcn : IntKind.i64.wrap (n : Int) = n := wrap_i64_id (by omega) (by omega)
  have hcc : IntKind.i64.wrap c = c := wrap_i64_id (by omega) (by omega)
  have HC0 := Lib.hid hc0
  have HC1 := Lib.hid hc1
  clear hc0 hc1
  go_enter Try.func5, Try.ntmps5
  go_wp2_with fail
  refine (awake17 w).mono ?_
  rintro e w1 ⟨rfl, b1⟩
  have B1 : Hid (Below B w w1) := by rw [HB.out]; exact b1
  clear b1
  go_wp2_with fail
  refine (fill_any 1 w1).mono ?_
  rintro e w2 ⟨v1, rfl, hv, b2, _⟩
  have B2 := Lib.hid (later HB.out B1.out b2)
  clear hv b2
  go_wp2_with fail
  refine (dkWrite_nil w2 _ _).mono ?_
  rintro e w2 ⟨rfl, rfl⟩
  go_wp2_with fail
  refine (dkFlush_nil w2).mono ?_
  rintro e w2 ⟨rfl, rfl⟩
  go_wp2_with fail
  refine (dkCrash_nil w2 _).mono ?_
  rintro e w2 ⟨rfl, rfl⟩
  go_wp2_with fail
  refine (dkClone_nil w2).mono ?_
  rintro e w2 ⟨rfl, rfl⟩
  go_wp2_with fail
  refine (dkSize_nil w2).mono ?_
  rintro e w2 ⟨rfl, rfl⟩
  go_wp2_with fail
  refine (dkWaiting_nil w2).mono ?_
  rintro e w2 ⟨rfl, rfl⟩
  go_wp2_with fail
  refine (dkLives_nil w2).mono ?_
  rintro e w2 ⟨rfl, rfl⟩
  go_wp2_with fail
  refine (dkOff_nil w2).mono ?_
  rintro e w2 ⟨rfl, rfl⟩
  go_wp2_with fail
  refine (dkB_new 1 (by decide) (by decide) HB.out B2.out).mono ?_
  rintro e w3 ⟨p, rfl, h3, b3⟩
  have H3 := Lib.hid h3
  have B3 := Lib.hid b3
  clear h3 b3
  go_wp2_with fail
  refine (dkB_fuse H3.out HB.out B3.out (n : Int) (by omega)).mono ?_
  rintro e w4 ⟨rfl, h4, b4⟩
  rw [dF_start] at h4
  have H4 := Lib.hid h4
  have B4 := Lib.hid b4
  clear h4 b4 H3
  go_wp2
  go_loopw [63] (fun i wr => ∃ k : Nat, k ≤ n ∧ i = .int .i64 k ∧ Below B w wr ∧ DkB B wr p (dF n k)) (fun i _ => n - (intOf i).toNat)
  case atStart => exact ⟨0, Nat.zero_le _, rfl, B4.out, H4.out⟩
  case round =>
    obtain ⟨k, hk, rfl, hBe, hT⟩ := hrel
    have HBe := Lib.hid hBe
    have HT := Lib.hid hT
    clear hBe hT
    by_cases hlt : k < n
    · have hck : IntKind.u8.wrap (k : Int) = k := by rw [IntKind.wrap_u8]; omega
      go_wp2_with fail
      refine (fill_any k _).mono ?_
      rintro e w5 ⟨v5, rfl, hv5, b5, _⟩
      have V5 := Lib.hid hv5
      have H5 := Lib.hid (HT.out.below b5)
      have B5 := Lib.hid (later HB.out HBe.out b5)
      obtain ⟨av, cv, rfl, _⟩ := hv5
      clear b5
      go_wp2_with fail
      refine (dkB_write H5.out HB.out B5.out 0 _ 64 (fun _ => (k : Int)) V5.out (by show k < 1000000; omega)).mono ?_
      rintro e w6 ⟨rfl, h6, b6, _⟩
      rw [dF_write hlt] at h6 ⊢
      have H6 := Lib.hid h6
      have B6 := Lib.hid b6
      clear h6 b6
      go_wp2_with fail
      refine (dkB_off H6.out).mono ?_
      rintro e w6 ⟨rfl, rfl⟩
      rw [show (dF n (k + 1)).off = false from rfl]
      go_wp2
      go_roundw
      case rel => exact ⟨k + 1, by omega, by go_num, B6.out, H6.out⟩
      case measure => simp [intOf]; omega
    · obtain rfl : k = n := by omega
      clear H4 B4 B1 B2 B3
      go_wp2_with fail
      refine (dkB_flush HT.out HB.out HBe.out).mono ?_
      rintro e w5 ⟨rfl, h5, b5, _⟩
      rw [dF_end] at h5 ⊢
      have H5 := Lib.hid h5
      have B5 := Lib.hid b5
      clear h5 b5
      go_wp2_with fail
      refine (dkB_off H5.out).mono ?_
      rintro e w5 ⟨rfl, rfl⟩
      rw [show (dOff k).off = true from rfl]
      go_wp2_with fail
      refine (fill_any 9 _).mono ?_
      rintro e w6 ⟨v6, rfl, hv6, b6, _⟩
      have V6 := Lib.hid hv6
      have H6 := Lib.hid (H5.out.below b6)
      have B6 := Lib.hid (later HB.out B5.out b6)
      obtain ⟨av6, cv6, rfl, _⟩ := hv6
      clear b6
      go_wp2_with fail
      refine (dkB_write H6.out HB.out B6.out 0 _ 64 (fun _ => 9) V6.out (by show k < 1000000; omega)).mono ?_
      rintro e w7 ⟨rfl, h7, b7, _⟩
      rw [show (dOff k).write 0 64 (fun _ => 9) = (dOff k, 30) from rfl] at h7 ⊢
      have H7 := Lib.hid h7
      have B7 := Lib.hid b7
      clear h7 b7
      go_wp2_with fail
      refine (dkB_flush H7.out HB.out B7.out).mono ?_
      rintro e w8 ⟨rfl, h8, b8, _⟩
      rw [show (dOff k).flush = (dOff k, 30) from rfl] at h8 ⊢
      have H8 := Lib.hid h8
      have B8 := Lib.hid b8
      clear h8 b8
      go_wp2_with fail
      refine (dkB_read H8.out HB.out B8.out 0).mono ?_
      rintro e w9 ⟨u9, l9, rfl, hl9, hr9, h9, _, b9⟩
      rw [show (dOff k).may 0 = 30 from rfl] at hl9 ⊢
      have H9 := Lib.hid h9
      have B9 := Lib.hid b9
      clear hr9 hl9 h9 b9
      go_wp2_with fail
      refine (dkB_waiting H9.out).mono ?_
      rintro e w9 ⟨rfl, rfl⟩
      rw [show ((dOff k).m : Int) = k from rfl]
      clear H5 H6 H7 H8 B5 B6 B7 B8 V6 HT HBe
      go_wp2_with (refine make_ints rfl _ _ 23 rfl w9.heap.size 5 .u8 1 Try.underlying23 Try.info5 .i64 .i64 k rfl rfl (by omega) (by omega) (Nat.le_refl _) ?_; intro w10 hown hgrow)
      have b10 : Below w9.heap.size w9 w10 := below_grown0 (Below.refl _ _) hgrow (Nat.le_refl _)
      have H10 := Lib.hid (H9.out.below b10)
      have B10 := Lib.hid (later HB.out B9.out b10)
      obtain ⟨G, hG⟩ : ∃ x, x = w9.heap.size := ⟨_, rfl⟩
      have HG := Lib.hid (show B ≤ G by have := B9.out.size; have := HB.out; omega)
      rw [← hG] at hown ⊢
      have HO := Lib.hid hown
      clear hown hgrow b10 hG H9 B9
      go_wp2
      go_loopw [115] (fun i wr => ∃ j : Nat, j ≤ k ∧ i = .int .i64 j ∧ Below B w wr ∧ DkB B wr p (dOff k) ∧ Own .u8 5 G wr (.slice (some ⟨G, 0, none⟩) k k) k (upto j (fun _ => c) (fun _ => 0))) (fun i _ => k - (intOf i).toNat)
      case atStart => exact ⟨0, Nat.zero_le _, rfl, B10.out, H10.out, by rw [upto_zero]; exact HO.out⟩
      case round =>
        obtain ⟨j, hj, rfl, hBe, hT, hO⟩ := hrel
        have HBe := Lib.hid hBe
        have HT := Lib.hid hT
        clear hBe hT
        by_cases hlt : j < k
        · obtain ⟨g, cap, eg, _, _, _, _, hcell, hfree⟩ := hO.form (by omega)
          simp only [Value.slice.injEq, Option.some.injEq, Addr.mk.injEq, and_true, true_and] at eg
          obtain ⟨rfl, rfl⟩ := eg
          have e0 := hcell j hlt
          have f0 := hfree j
          have HO1 := Lib.hid (hO.store j c)
          rw [upto_step rfl] at HO1
          obtain ⟨mr, hro⟩ := hO.rowB (b := G) rfl
          have HB1 := Lib.hid (HBe.out.setCell (p := ⟨G, j, none⟩) HG.out (.int .u8 c))
          have HT1 : Hid (DkB B (wr.setCell ⟨G, j, none⟩ (.int .u8 c)) p (dOff k)) := by
            obtain ⟨vk, vn, vw, q1, q2⟩ := HT.out
            exact ⟨vk, vn, vw, q1.stay (Chg.set (fun b => b = G) _ ⟨G, j, none⟩ _ rfl) (fun b hb e => q1.noBytes hb (e ▸ ⟨_, hro⟩)), q2⟩
          clear hcell hfree hO hro
          go_wp2
          go_roundw
          case rel => exact ⟨j + 1, by omega, by go_num, HB1.out, HT1.out, HO1.out⟩
          case measure => simp [intOf]; omega
        · obtain rfl : j = k := by omega
          have HR := Lib.hid (hO.rd.congr (g := fun _ => c) fun i hi => upto_full (fun _ => c) (fun _ => 0) (Nat.le_refl j) i hi)
          have HO1 := Lib.hid hO
          clear hO H10 HO B10
          go_wp2_with fail
          refine (dkB_crash HT.out HB.out HBe.out _ j (fun _ => c) HR.out (fun _ _ => ⟨HC0.out, HC1.out⟩) (fun _ b hb => .inl (HO1.out.rowB hb))).mono ?_
          rintro e w11 ⟨rfl, h11, b11, _⟩
          have H11 := Lib.hid h11
          have B11 := Lib.hid b11
          clear h11 b11 HT HBe HR HO1
          go_wp2_with fail
          refine (dkB_off H11.out).mono ?_
          rintro e w11 ⟨rfl, rfl⟩
          rw [show ((dOff j).crash j fun _ => c).off = false from rfl]
          go_wp2_with fail
          refine (dkB_read H11.out HB.out B11.out 0).mono ?_
          rintro e w12 ⟨u12, l12, rfl, hl12, hr12, h12, _, b12⟩
          rw [show ((dOff j).crash j fun _ => c).may 0 = 0 from rfl] at hl12 ⊢
          obtain rfl : l12 = 64 := hl12
          have R12 : Hid (Rd .u8 w12 u12 64 fun k => if (k : Int) < c ∧ 0 < j then (j : Int) - 1 else 0) := hr12.congr fun i hi => dOff_crash j c HC0.out i
          have H12 := Lib.hid h12
          have B12 := Lib.hid b12
          obtain ⟨au, cu, rfl, _⟩ := hr12
          clear h12 b12 H11 B11
          obtain ⟨BF, hBF⟩ : ∃ x, x = fun k : Nat => if (k : Int) < c ∧ 0 < j then (j : Int) - 1 else 0 := ⟨_, rfl⟩
          rw [← hBF] at R12
          have HBF := Lib.hid hBF
          clear hBF
          obtain ⟨D, hD⟩ : ∃ x, x = (dOff j).crash j fun _ => c := ⟨_, rfl⟩
          have HDW : Hid (∀ f, ((D.write 0 64 f).2 = 0 ∧ (D.write 0 64 f).1.flush.2 = 0) ∧ D.m < 1000000) := by
            rw [hD]
            exact fun f => ⟨⟨rfl, rfl⟩, by show 0 < 1000000; decide⟩
          rw [← hD] at H12
          clear hD
          go_wp2_with fail
          refine (fill_own 0 w12).mono ?_
          rintro e w13 ⟨rfl, hO, b13⟩
          have R13 := Lib.hid (R12.out.below b13)
          have H13 := Lib.hid (H12.out.below b13)
          have B13 := Lib.hid (later HB.out B12.out b13)
          obtain ⟨G2, hG2⟩ : ∃ x, x = w12.heap.size := ⟨_, rfl⟩
          have HG2 := Lib.hid (show B ≤ G2 by have := B12.out.size; have := HB.out; omega)
          have FAR : Hid (∀ b, (Value.slice au 64 cu).ownBlock = some b → b < G2) := fun b hb => by
            rw [hG2]
            exact Rd.lt R12.out (by decide) b hb
          rw [← hG2] at hO ⊢
          have HO := Lib.hid hO
          clear hO b13 hG2 H12 B12 R12
          go_wp2
          go_loopw [16] (fun i wr => ∃ x : Nat, x ≤ 64 ∧ (x : Int) ≤ c ∧ (x = 0 ∨ 0 < j) ∧ i = .int .i64 x ∧ Below B w wr ∧ DkB B wr p D ∧ Rd .u8 wr (.slice au 64 cu) 64 BF ∧ Own .u8 5 G2 wr (.slice (some ⟨G2, 0, none⟩) 64 64) 64 (upto x (fun _ => (j : Int) - 1) (fun _ => 0))) (fun i _ => 64 - (intOf i).toNat)
          case atStart => exact ⟨0, by decide, HC0.out, .inl rfl, rfl, B13.out, H13.out, R13.out, by rw [upto_zero]; exact HO.out⟩
          case round =>
            obtain ⟨x, hx, hxc, hxj, rfl, hBe, hT, hR, hO⟩ := hrel
            have HBe := Lib.hid hBe
            have HT := Lib.hid hT
            have HR := Lib.hid hR
            clear hBe hT hR
            by_cases hgo : (x : Int) < 64 ∧ (x : Int) < c ∧ 0 < j
            · obtain ⟨hx1, hx2, hx3⟩ := hgo
              have hx4 : (0 : Int) < (j : Int) := by omega
              have hwj : IntKind.u8.wrap ((j : Int) - 1) = (j : Int) - 1 := by rw [IntKind.wrap_u8]; omega
              obtain ⟨g, cap, eg, _, _, _, _, hcell, hfree⟩ := hO.form (by decide)
              simp only [Value.slice.injEq, Option.some.injEq, Addr.mk.injEq, and_true, true_and] at eg
              obtain ⟨rfl, rfl⟩ := eg
              have e0 := hcell x (by omega)
              have f0 := hfree x
              have HO1 := Lib.hid (hO.store x ((j : Int) - 1))
              rw [upto_step rfl] at HO1
              obtain ⟨mr, hro⟩ := hO.rowB (b := G2) rfl
              have HB1 := Lib.hid (HBe.out.setCell (p := ⟨G2, x, none⟩) HG2.out (.int .u8 ((j : Int) - 1)))
              have HT1 : Hid (DkB B (wr.setCell ⟨G2, x, none⟩ (.int .u8 ((j : Int) - 1))) p D) := by
                obtain ⟨vk, vn, vw, q1, q2⟩ := HT.out
                exact ⟨vk, vn, vw, q1.stay (Chg.set (fun b => b = G2) _ ⟨G2, x, none⟩ _ rfl) (fun b hb e => q1.noBytes hb (e ▸ ⟨_, hro⟩)), q2⟩
              have HR1 : Hid (Rd .u8 (wr.setCell ⟨G2, x, none⟩ (.int .u8 ((j : Int) - 1))) (.slice au 64 cu) 64 BF) := HR.out.chg (Chg.set (fun b => b = G2) _ ⟨G2, x, none⟩ _ rfl) (fun b hb e => by have := FAR.out b hb; omega)
              clear hcell hfree hO hro
              go_wp2
              go_roundw
              case rel => exact ⟨x + 1, by omega, by omega, .inr hx3, by go_num, HB1.out, HT1.out, HR1.out, HO1.out⟩
              case measure => simp [intOf]; omega
            · have hsame : ∀ i, i < 64 → BF i = upto x (fun _ => (j : Int) - 1) (fun _ => 0) i := fun i hi => by
                rw [HBF.out]
                unfold upto
                dsimp only
                by_cases h1 : i < x
                · rw [if_pos h1, if_pos ⟨by omega, by omega⟩]
                · rw [if_neg h1, if_neg (fun h => hgo ⟨by omega, by omega, h.2⟩)]
              have HO1 := Lib.hid hO
              have HS := Lib.hid hsame
              have HGO := Lib.hid hgo
              clear hO hsame H13 B13 R13 HO
              have hcas : (64 : Int) ≤ x ∨ (¬ (64 : Int) ≤ x ∧ c ≤ (x : Int)) ∨ (¬ (64 : Int) ≤ x ∧ ¬ c ≤ (x : Int) ∧ ¬ 0 < j) := by
                have := HGO.out
                omega
              clear hxc hxj hx hcn
              rcases hcas with q1 | ⟨q1, q2⟩ | ⟨q1, q2, q3⟩
              all_goals
                go_wp2_with fail
                refine (same_yes _ _ 64 _ _ _ HR.out HO1.out.rd HS.out).mono ?_
                rintro e w14 ⟨rfl, b14⟩
                have H14 := Lib.hid (HT.out.below b14)
                have B14 := Lib.hid (later HB.out HBe.out b14)
                clear b14
                go_wp2_with fail
                refine (fill_any 1 w14).mono ?_
                rintro e w15 ⟨v15, rfl, hv15, b15, _⟩
                have V15 := Lib.hid hv15
                have H15 := Lib.hid (H14.out.below b15)
                have B15 := Lib.hid (later HB.out B14.out b15)
                obtain ⟨av15, cv15, rfl, _⟩ := hv15
                clear b15
                go_wp2_with fail
                refine (dkB_write H15.out HB.out B15.out 0 _ 64 (fun _ => 1) V15.out (HDW.out (fun _ => 0)).2).mono ?_
                rintro e w16 ⟨rfl, h16, b16, _⟩
                rw [(HDW.out _).1.1]
                have H16 := Lib.hid h16
                have B16 := Lib.hid b16
                clear h16 b16
                go_wp2_with fail
                refine (dkB_flush H16.out HB.out B16.out).mono ?_
                rintro e w17 ⟨rfl, _, b17, _⟩
                rw [(HDW.out _).1.2]
                have B17 := Lib.hid b17
                clear b17
                go_wp2
                go_ret
                exact ⟨rfl, B17.out⟩
end Go.Proofs.Ytlmdgmgbijfaoaa
