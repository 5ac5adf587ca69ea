/-
  bastilleref11.Tag: what it answers. Conditions: named in each theorem.
-/
import Derived.Test.YtgobodhcamgidaaAe2
import Derived.Test.YtgobodhcamgidaaFlow
import Derived.Test.YtgobodhcamgidaaRLow
set_option linter.unusedVariables false
set_option linter.unusedSimpArgs false
namespace Go.Bas
open Go.RowKit
theorem num8_low (n : Nat) : (fun i => (n : Int) / 2 ^ (8 * i) % 256) = num8 n := rfl
theorem num8_short {n : Nat} (h : n ≤ 400000) : (n : Int) / 2 ^ (8 * 8) = 0 := by
  refine Int.ediv_eq_zero_of_lt (by omega) ?_
  have : (2 : Int) ^ (8 * 8) = 18446744073709551616 := by decide
  rw [this]; omega
end Go.Bas
namespace Go.Proofs.Ytgobodhcamgidaa
open Go.RowKit Go.Bas
attribute [local go_sem ↓] Go.wp_at_zero Go.wp_at_succ

set_option maxRecDepth 100000 in
set_option maxHeartbeats 6400000 in
theorem rATag_any (key nonce : Nat → Int) (hk : ∀ i, i < 32 → 0 ≤ key i ∧ key i < 256) (hn : ∀ i, i < 12 → 0 ≤ nonce i ∧ nonce i < 256) (vb vh : Value) (nb nh : Nat) (fb fh : Nat → Int) (w : World)
    (hb : Rd .u8 w vb nb fb) (hh : Rd .u8 w vh nh fh) (hfb : ∀ i, i < nb → 0 ≤ fb i ∧ fb i < 256) (hfh : ∀ i, i < nh → 0 ≤ fh i ∧ fh i < 256) (l1 : nb ≤ 400000) (l2 : nh ≤ 400000) :
    Calls Try.prog 41 #[.agg (arr .u8 32 key), .agg (arr .u8 12 nonce), vb, vh] w fun e w' => e = .returned (.agg (arr .u8 16 (dg 256 (aTag key nonce nb fb nh fh)))) ∧ Below w.heap.size w w' := by
  obtain ⟨F, hF⟩ : ∃ F, F = macF nb fb nh fh := ⟨_, rfl⟩
  obtain ⟨N, hN⟩ : ∃ N, N = macN nb nh := ⟨_, rfl⟩
  obtain ⟨K, hK⟩ : ∃ K, K = sm 256 (blkB key nonce 0) 32 := ⟨_, rfl⟩
  have HKB : Hid (0 ≤ K ∧ K < 256 ^ 32) := by rw [hK]; exact sm_bound (by decide) fun i hi => blkB_bound _ _ _ _
  have HKD : Hid (∀ i, i < 32 → blkB key nonce 0 i = dg 256 K i) := by rw [hK]; exact fun i hi => (dg_sm (f := blkB key nonce 0) (by decide) (fun i hi => blkB_bound _ _ _ _) i hi).symm
  have HTN : Hid (tagN K F N = aTag key nonce nb fb nh fh) := by rw [hK, hF, hN]; exact rfl
  have HF : Hid (∀ i, i < N → 0 ≤ F i ∧ F i < 256) := by rw [hF, hN]; exact macF_bound hfb hfh
  have HF0 : Hid (∀ i, i < nb → F (0 + i) = fb i) := by rw [hF]; exact fun i hi => macF_beside hi
  have HF1 : Hid (∀ i, i < gp nb → F (nb + i) = 0) := by rw [hF]; exact fun i hi => macF_gap1 hi
  have HF2 : Hid (∀ i, i < nh → F (nb + gp nb + i) = fh i) := by rw [hF]; exact fun i hi => macF_hidden hi
  have HF3 : Hid (∀ i, i < gp nh → F (nb + gp nb + nh + i) = 0) := by rw [hF]; exact fun i hi => macF_gap2 hi
  have HF4 : Hid (∀ i, i < 8 → F (nb + gp nb + nh + gp nh + i) = num8 nb i) := by rw [hF]; exact fun i hi => macF_size1 hi
  have HF5 : Hid (∀ i, i < 8 → F (nb + gp nb + nh + gp nh + 8 + i) = num8 nh i) := by rw [hF]; exact fun i hi => macF_size2 hi
  obtain ⟨TN, hTN⟩ : ∃ TN, TN = aTag key nonce nb fb nh fh := ⟨_, rfl⟩
  rw [← hTN] at HTN ⊢
  have HGB : Hid ((nb + gp nb) % 16 = 0 ∧ gp nb < 16 ∧ ∀ i, i < gp nb → (nb + i) % 16 ≠ 0) := by unfold Hid gp; refine ⟨by omega, by omega, fun i hi => by omega⟩
  have HGH : Hid ((nb + gp nb + nh + gp nh) % 16 = 0 ∧ gp nh < 16 ∧ ∀ i, i < gp nh → (nb + gp nb + nh + i) % 16 ≠ 0) := by have := HGB.out.1; unfold Hid gp at *; refine ⟨by omega, by omega, fun i hi => by omega⟩
  obtain ⟨M1, hM1⟩ : ∃ M1, M1 = nb + gp nb := ⟨_, rfl⟩
  obtain ⟨G1, hG1⟩ : ∃ G1, G1 = gp nb := ⟨_, rfl⟩
  obtain ⟨G2, hG2⟩ : ∃ G2, G2 = gp nh := ⟨_, rfl⟩
  have HNN : Hid (M1 + nh + G2 + 8 + 8 = N) := by unfold Hid; rw [hN, macN_eq, hM1, hG2]
  rw [← hM1] at HF2 HF3 HF4 HF5 HGB HGH
  rw [← hG1] at HF1 HGB hM1
  rw [← hG2] at HF3 HF4 HF5 HGH
  have HM1 := Lib.hid hM1
  have HBL := Lib.hid (rBlock_any key nonce 0 hk hn (by decide))
  have HB := Lib.hid hb
  have HH := Lib.hid hh
  have HL1 := Lib.hid (Low_any (nb : Int) 8)
  have HL2 := Lib.hid (Low_any (nh : Int) 8)
  obtain ⟨ab, cb, rfl, b1, b2, b3, b4⟩ := hb
  obtain ⟨ah, ch, rfl, h1, h2, h3, h4⟩ := hh
  have g1 := HGB.out.2.1
  have g2 := HGH.out.2.1
  have m1 : M1 ≤ nb + 16 := by omega
  clear hF hN hK hTN hk hn hfb hfh b3 b4 h3 h4 hM1 hG1 hG2
  go_enter Try.func41, Try.ntmps41
  go_upto_region 1 with (fail)
  refine wp_world (fun w1 => Arr .u8 w1 w.heap.size 32 key ∧ Arr .u8 w1 (w.heap.size + 1) 12 nonce ∧ Arr .u8 w1 (w.heap.size + 2) 16 (fun _ => 0) ∧ Below w.heap.size w w1 ∧ w1.heap.size = w.heap.size + 3)
    ⟨Arr.alloc (Arr.alloc (Arr.newAt rfl rfl) _) _, Arr.alloc (Arr.newAt (by simp) rfl) _, Arr.newAt (by simp) (by rfl), (((Below.refl _ _).alloc (Nat.le_refl _) _).alloc (by simp) _).alloc (by simp; omega) _, by simp⟩ ?_
  rintro w1 ⟨hA, hN, hZ, hbel, hs⟩
  go_wp2_with (first
    | (refine load_arr rfl 26 _ rfl .u8 w.heap.size 32 _ 5 Try.underlying26 Try.size26 rfl hA ?_)
    | (refine load_arr rfl 64 _ rfl .u8 (w.heap.size + 1) 12 _ 5 Try.underlying64 Try.size64 rfl hN ?_))
  refine (HBL.out _).mono ?_
  rintro e w2 ⟨v, rfl, hO, hb2⟩
  obtain ⟨g, cg, rfl, _, q2, q3, q4, hcells, _⟩ := hO.form (by decide)
  have hbel2 := hbel.trans (hb2.mono hbel.size)
  have hZ2 := hZ.kept hb2
  have HC : Hid (∀ i, i < 32 → w2.cell? ⟨g, i, none⟩ = some (.int .u8 (dg 256 K i))) := fun i hi => by rw [hcells i (by omega), HKD.out i hi]
  have s2 := hZ2.lt
  clear hA hN hZ hbel hs hb2 hO hcells
  go_upto_region 3 with (fail)
  refine wp_world (fun w3 => Arr .u8 w3 w2.heap.size 32 (upto 0 (dg 256 K) (fun _ => 0)) ∧ Below w2.heap.size w2 w3 ∧ w3.heap.size = w2.heap.size + 1) ⟨by rw [upto_zero]; exact Arr.newAt rfl (by rfl), (Below.refl _ _).alloc (Nat.le_refl _) _, by simp⟩ ?_
  rintro w3 ⟨hA3, hb3, hs3⟩
  go_wp2
  go_loopw [11] (fun i wr => ∃ k : Nat, k ≤ 32 ∧ i = .int .i64 k ∧ Arr .u8 wr w2.heap.size 32 (upto k (dg 256 K) (fun _ => 0)) ∧ Below w2.heap.size w2 wr) (fun i _ => 32 - (intOf i).toNat)
  case atStart => exact ⟨0, Nat.zero_le _, rfl, hA3, hb3⟩
  case round =>
    clear hA3 hb3 hs3
    obtain ⟨k, hk, rfl, hA, hbw⟩ := hrel
    by_cases hlt : k < 32
    · have e1 := (hbw.cell (p := ⟨g, k, none⟩) q2).trans (HC.out k hlt)
      have e2 := hA.cell k hlt
      have f2 := hA.free k
      rw [upto_at] at e2
      have HA := Lib.hid hA
      have hlc : (k : Int) < 64 := by omega
      clear hA
      go_wp2
      go_roundw
      case rel => exact ⟨k + 1, by omega, by go_num, by rw [← upto_step rfl]; exact HA.out.set k _, hbw.setCell (by simp) _⟩
      case measure => simp [intOf] <;> omega
    · obtain rfl : k = 32 := by omega
      have hA4 : Arr .u8 wr w2.heap.size 32 (dg 256 K) := hA.congr (upto_full _ _ (Nat.le_refl _))
      have hs4 := hA4.lt
      have hB0 := Lib.hid (HB.out.below (hbel2.trans (hbw.mono hbel2.size)))
      have HHB := Lib.hid (HH.out.below (hbel2.trans (hbw.mono hbel2.size)))
      have hZ4 := hZ2.kept hbw
      have hZ2' : w.heap.size + 2 < wr.heap.size := hZ4.lt
      have hbel4 := hbel2.trans (hbw.mono hbel2.size)
      have sw := hbel4.size
      have sw2 := hbw.size
      obtain ⟨w4, hw4⟩ : ∃ w4, w4 = wr := ⟨_, rfl⟩
      subst hw4
      clear hA hlt hbw hbel2 hZ2
      go_upto_region 9 with (at_builtin; refine append_rd rfl _ _ 22 rfl w4.heap.size 5 .u8 1 Try.underlying22 Try.info5 _ 0 F (Own.nil _ _ _ _ _) rfl _ nb fb hB0.out rfl HF0.out (by omega) (by omega) (Nat.le_refl _) ?_; intro v5 w5 hown5 hgr5)
      have hown : Go.Bas.Own .u8 5 w4.heap.size w5 v5 nb F := by rw [Nat.zero_add] at hown5; exact hown5
      have hb5 : Below w4.heap.size w4 w5 := below_grown (Below.refl w4.heap.size w4) hgr5 (Go.Bas.Own.nil .u8 5 w4.heap.size w4 F) (Nat.le_refl _) (Nat.le_refl _)
      clear hown5 hgr5
      have nb1 : nb ≤ M1 := by have := HM1.out; omega
      have HF1' : Hid (∀ i, i < M1 - nb → F (nb + i) = 0) := fun i hi => HF1.out i (by have := HM1.out; omega)
      have HGB' : Hid (∀ i, i < M1 - nb → (nb + i) % 16 ≠ 0) := fun i hi => HGB.out.2.2 i (by have := HM1.out; omega)
      go_loopw [12] (fun v wr => ∃ m : Nat, nb ≤ m ∧ m ≤ M1 ∧ Go.Bas.Own .u8 5 w4.heap.size wr v m F ∧ Below w4.heap.size w4 wr) (fun v _ => M1 - lenV v)
      case atStart => exact ⟨nb, by omega, by omega, hown, hb5⟩
      case round =>
        clear hown hb5
        obtain ⟨m, hm1, hm2, ho, hbw⟩ := hrel
        have hsw := hbw.size
        have ht0 : Int.tmod (m : Int) 16 = (m : Int) % 16 := Int.tmod_eq_emod_of_nonneg (by omega)
        obtain ⟨la, lc, rfl, c1, c2, _, _⟩ := ho.rd
        by_cases hlt : m < M1
        · have hmod : ((m : Int) % 16 != 0) = true := by
            have := HGB'.out (m - (nb)) (by omega)
            rw [show nb + (m - (nb)) = m by omega] at this
            simp; omega
          have HO := Lib.hid ho
          clear ho
          go_wp2_with (at_builtin; refine append_new2 rfl _ _ 22 rfl w4.heap.size 5 .u8 1 Try.underlying22 Try.info5 _ m F _ _ rfl HO.out rfl 1 rfl rfl ?_ (by omega) (by omega) (by omega) ?_; rotate_right; intro v' w6 hown hgrow hpl)
          · go_roundw
            case rel => exact ⟨m + 1, by omega, by omega, hown, below_grown (hbw.alloc hsw _) hgrow HO.out (by simp; omega) (Nat.le_refl _)⟩
            case measure => obtain ⟨g', c', rfl⟩ := ownsRow_succ hown; show M1 - (m + 1) < M1 - m; omega
          · intro i hi
            refine one0 hi ?_
            have := HF1'.out (m - (nb)) (by omega)
            rw [show nb + (m - (nb)) = m by omega] at this
            rw [show m + i = m by omega]; exact this.symm
        · obtain rfl : M1 = m := by omega
          have hmod : ((M1 : Int) % 16 != 0) = false := by
            have := HGB.out.1
            simp; omega
          have HO := Lib.hid ho
          have HHW := Lib.hid (HHB.out.below hbw)
          clear ho
          go_upto_region 12 with (at_builtin; refine append_rd rfl _ _ 22 rfl w4.heap.size 5 .u8 1 Try.underlying22 Try.info5 _ M1 F HO.out rfl _ nh fh HHW.out rfl HF2.out (by omega) (by omega) hsw ?_; intro v7 w7 hown hgr7)
          have hb5 := below_grown hbw hgr7 HO.out hsw (Nat.le_refl _)
          clear hgr7 HO HHW hbw
          obtain ⟨L2, hL2⟩ : ∃ L2, L2 = M1 + nh := ⟨_, rfl⟩
          rw [← hL2] at HF3 HF4 HF5 HGH HNN hown
          obtain ⟨M2, hM2⟩ : ∃ M2, M2 = L2 + G2 := ⟨_, rfl⟩
          rw [← hM2] at HF4 HF5 HGH HNN
          have l2b : L2 ≤ 800016 := by omega
          have m2b : M2 ≤ 800032 := by omega
          have l2m : L2 ≤ M2 := by omega
          have HF3' : Hid (∀ i, i < M2 - L2 → F (L2 + i) = 0) := fun i hi => HF3.out i (by omega)
          have HGH' : Hid (∀ i, i < M2 - L2 → (L2 + i) % 16 ≠ 0) := fun i hi => HGH.out.2.2 i (by omega)
          clear hL2 hM2
          go_loopw [12] (fun v wr => ∃ m : Nat, L2 ≤ m ∧ m ≤ M2 ∧ Go.Bas.Own .u8 5 w4.heap.size wr v m F ∧ Below w4.heap.size w4 wr) (fun v _ => M2 - lenV v)
          case atStart => exact ⟨L2, by omega, by omega, hown, hb5⟩
          case round =>
            clear hown hb5
            obtain ⟨m, hm1, hm2, ho, hbw⟩ := hrel
            have hsw := hbw.size
            have ht0 : Int.tmod (m : Int) 16 = (m : Int) % 16 := Int.tmod_eq_emod_of_nonneg (by omega)
            obtain ⟨la, lc, rfl, c1, c2, _, _⟩ := ho.rd
            by_cases hlt : m < M2
            · have hmod : ((m : Int) % 16 != 0) = true := by
                have := HGH'.out (m - (L2)) (by omega)
                rw [show L2 + (m - (L2)) = m by omega] at this
                simp; omega
              have HO := Lib.hid ho
              clear ho
              go_wp2_with (at_builtin; refine append_new2 rfl _ _ 22 rfl w4.heap.size 5 .u8 1 Try.underlying22 Try.info5 _ m F _ _ rfl HO.out rfl 1 rfl rfl ?_ (by omega) (by omega) (by omega) ?_; rotate_right; intro v' w6 hown hgrow hpl)
              · go_roundw
                case rel => exact ⟨m + 1, by omega, by omega, hown, below_grown (hbw.alloc hsw _) hgrow HO.out (by simp; omega) (Nat.le_refl _)⟩
                case measure => obtain ⟨g', c', rfl⟩ := ownsRow_succ hown; show M2 - (m + 1) < M2 - m; omega
              · intro i hi
                refine one0 hi ?_
                have := HF3'.out (m - (L2)) (by omega)
                rw [show L2 + (m - (L2)) = m by omega] at this
                rw [show m + i = m by omega]; exact this.symm
            · obtain rfl : M2 = m := by omega
              have hmod : ((M2 : Int) % 16 != 0) = false := by
                have := HGH.out.1
                simp; omega
              have HO := Lib.hid ho
              clear ho
              go_wp2_with fail
              refine (HL1.out _ (by decide) (by decide) (by omega) (by omega)).mono ?_
              rintro e w8 ⟨x1, hx1, hb8, he, _⟩
              obtain rfl := he (num8_short l1)
              have hX1 := Lib.hid hx1.rd
              have HO8 := Lib.hid (HO.out.below hb8)
              have hbw8 := hbw.trans (hb8.mono hbw.size)
              clear hx1 he hb8 HO hbw
              go_wp2_with fail
              refine (HL2.out _ (by decide) (by decide) (by omega) (by omega)).mono ?_
              rintro e w9 ⟨x2, hx2, hb9, he, _⟩
              obtain rfl := he (num8_short l2)
              have hX2 := hx2.rd
              have HX1 := Lib.hid (hX1.out.below hb9)
              have HO9 := Lib.hid (HO8.out.below hb9)
              have hbw9 := hbw8.trans (hb9.mono hbw8.size)
              have hl2 : (w8.heap.size : Nat) ≤ w9.heap.size := hb9.size
              have hvb : ∀ b, (Value.slice la M2 lc).ownBlock = some b → b < w8.heap.size := fun b e => (World.ownsRow.lt HO8.out b e).2
              have hxb : ∀ b, x2.ownBlock = some b → w8.heap.size ≤ b := hx2.block
              have HX2o := Lib.hid hx2
              clear he hb9 HO8 hbw8 hX1
              have hbs := hbw9.size
              go_upto_region 17 with (at_builtin; refine append_rd rfl _ _ 22 rfl w4.heap.size 5 .u8 1 Try.underlying22 Try.info5 _ M2 F HO9.out rfl _ 8 _ HX1.out rfl HF4.out (by omega) (by omega) hbs ?_; intro v10 w10 hown hgr10)
              have hb10 := below_grown hbw9 hgr10 HO9.out hbs (Nat.le_refl _)
              have hX3 : Rd .u8 w10 x2 8 (num8 nh) := Go.Bas.Own.rd (e := 5) (base := w8.heap.size) (World.ownsRow.kept HX2o.out hgr10 (by
                cases hv : x2.ownBlock with
                | none => exact .inl rfl
                | some b => exact .inr fun e => by have := hvb b e.symm; have := hxb b hv; omega))
              have HO10 := Lib.hid hown
              have HX10 := Lib.hid hX3
              have HB10 := Lib.hid hb10
              clear hown hgr10 hX3 hX2 HX2o HX1 HO9 hbw9 hb10 hvb hxb
              refine region_lastE' (n := 70) 5 rfl (by decide) (by kernel_rfl) (by kernel_rfl) (by kernel_rfl) (by kernel_rfl) rfl
                (fun ii vv ww => (match ii with | 0 => vv = .agg (arr .u8 32 (dg 256 K)) | 1 => vv = v10 | 2 => vv = x2 | 4 => vv = .agg (arr .u8 16 (dg 256 TN)) | _ => True) ∧ (ii = 3 → Rd .u8 ww vv N F)) 3
                (fun b ww => Below w4.heap.size w4 ww ∧ (b = false → Go.Bas.Own .u8 5 w4.heap.size ww v10 (M2 + 8) F ∧ Rd .u8 ww x2 8 (num8 nh))) ⟨HB10.out.drew, fun _ => ⟨HO10.out.drew, HX10.out⟩⟩
                (fun i ww w' => match i with | 3 => (Below w4.heap.size w4 ww → Below w4.heap.size w4 w') | _ => Below ww.heap.size ww w') ?_ ?_ ?_ ?_ rfl ?_ ?_
              · intro i ww; (try dsimp only); split
                · exact id
                · exact Below.refl _ _
              · intro i b ww w' hi hR hE
                have hE' : Below ww.heap.size ww w' := by (try dsimp only at hE); split at hE; (· exact absurd rfl hi); exact hE
                exact ⟨hR.1.trans (hE'.mono hR.1.size), fun hb => ⟨(hR.2 hb).1.below hE', (hR.2 hb).2.below hE'⟩⟩
              · intro ww w' hR hE
                exact ⟨hE hR.1, fun h => by cases h⟩
              · intro i j b v ww w' hij hjb hR hS hE
                refine ⟨hS.1, fun e => ?_⟩
                subst e
                have hE' : Below ww.heap.size ww w' := by (try dsimp only at hE); split at hE; (· exact absurd rfl hij); exact hE
                exact (hS.2 rfl).below hE'
              · refine Each.all ?_
                refine ⟨?_, ?_, ?_, ?_, ?_, (fun h => absurd rfl h), trivial⟩
                · intro _ b a w2 hcb hB hF hd
                  rw [if_pos (wanted_none rfl)]
                  exact flow_val (fun h => by cases h) (run_load_str rfl Try.underlying26 rfl Try.size26 (hF.same 10 rfl) (hA4.below hB.1 hs4)) ⟨rfl, fun h => absurd h (by decide)⟩
                · intro _ b a w2 hcb hB hF hd
                  rw [if_pos (wanted_none rfl)]
                  exact flow_move _ (.inl rfl) (by simp) ⟨(hF.same 12 rfl), fun h => absurd h (by decide)⟩
                · intro _ b a w2 hcb hB hF hd
                  rw [if_pos (wanted_none rfl)]
                  exact flow_move _ (.inl rfl) (by simp) ⟨(hF.same 15 rfl), fun h => absurd h (by decide)⟩
                · intro _ b a w2 hcb hB hF hd
                  rw [if_pos (wanted_none rfl)]
                  obtain ⟨ho2, hx2⟩ := hB.2 (hcb rfl)
                  refine wp_append_rd _ _ 22 rfl w4.heap.size 5 .u8 1 Try.underlying22 Try.info5 _ (M2 + 8) F ho2 (hd 1 _ rfl (waits_spec rfl)).1 _ 8 _ hx2 (hd 2 _ rfl (waits_spec rfl)).1 HF5.out (by omega) (by omega) hB.1.size ?_
                  intro v3 w3 ho3 hg3
                  exact ⟨v3, rfl, (fun h => by cases h), ⟨trivial, fun _ => by have := ho3.rd; rwa [show M2 + 8 + 8 = N from HNN.out] at this⟩, fun hb => below_grown hb hg3 ho2 hb.size (Nat.le_refl _)⟩
                · intro _ b a w2 hcb hB hF hd
                  rw [if_pos (wanted_none rfl)]
                  refine flow_call _ _ _ rfl Try.call72 _ (args2 (hd 0 _ rfl (waits_spec rfl)).1 rfl) (by simp) ((rTag_any K HKB.out _ F N _ ((hd 3 _ rfl (waits_spec rfl)).2 rfl) (by have := HNN.out; omega) HF.out).mono ?_)
                  rintro e w3 ⟨rfl, hb⟩
                  exact ⟨_, rfl, ⟨(by show Value.agg (arr .u8 16 (dg 256 (tagN K F N))) = _; rw [HTN.out]), fun h => absurd h (by decide)⟩, hb⟩
              · intro b a w3 hB hF hS
                have hZ3 := hZ4.below hB.1 (by have := hZ2'; omega)
                have hbel3 := hbel4.trans (hB.1.mono sw)
                obtain ⟨x68, hx68⟩ : ∃ x, x = a.tmps.getD 68 undef := ⟨_, rfl⟩
                have ha := puts_each rfl rfl hF [_, _, _, x68, _, undef] rfl ⟨(hS 0 _ rfl (by decide)).1, (hS 1 _ rfl (by decide)).1, (hS 2 _ rfl (by decide)).1, hx68.symm, (hS 4 _ rfl (by decide)).1, trivial, trivial⟩
                simp only [puts, Act.put, List.setIfInBounds_toArray, List.set_cons_succ, List.set_cons_zero] at ha
                subst ha
                clear hx68 hS hF hB
                refine wp_store_arr 70 _ _ rfl .u8 (w.heap.size + 2) 16 (fun _ => 0) _ Try.size70 rfl rfl hZ3 ?_
                go_wp2
                exact bodyPost_ret (results_arr rfl _ _ .u8 (w.heap.size + 2) 16 _ 5 rfl (hZ3.setRow _ _) Try.underlying70 Try.size70) rfl ⟨rfl, below_setRow' hbel3 (by omega) _⟩
end Go.Proofs.Ytgobodhcamgidaa
