/-
  bastilleref10: Clamp, Tag: what each makes. Conditions: named in each theorem.
-/
import Derived.Test.YtgobodhcamgidaaPoR2
import Derived.Test.YtgobodhcamgidaaPoT
import Derived.Test.YtgobodhcamgidaaNum
set_option linter.unusedVariables false
set_option linter.unusedSimpArgs false
namespace Go.Proofs.Ytgobodhcamgidaa
open Go.RowKit Go.Bas
attribute [local go_sem ↓] Go.wp_at_zero Go.wp_at_succ

set_option maxRecDepth 100000 in
set_option maxHeartbeats 3200000 in
theorem rClamp_any (v : Value) (n : Nat) (f : Nat → Int) (w : World) (hv : Rd .u8 w v n f) (hn : 16 ≤ n) (hf : ∀ i, i < 16 → 0 ≤ f i ∧ f i < 256) :
    Calls Try.prog 96 #[v] w fun e w' => ∃ v, e = .returned v ∧ Own .u8 5 w.heap.size w' v 16 (clampF f) ∧ Below w.heap.size w w' := by
  have HF := Lib.hid hf
  obtain ⟨a1, c1, rfl, l1, m1, z1, h1⟩ := hv
  obtain ⟨b, off, rfl, s1, hcell⟩ := h1 (by omega)
  have HC := Lib.hid hcell
  clear hcell hf h1 z1
  go_enter Try.func96, Try.ntmps96
  go_wp2
  go_loopw [3, 4] (fun v i wr => ∃ k : Nat, k ≤ 16 ∧ i = .int .i64 k ∧ Own .u8 5 w.heap.size wr v k (clampF f) ∧ Below w.heap.size w wr) (fun _ i _ => 16 - (intOf i).toNat)
  case atStart => exact ⟨0, Nat.zero_le _, rfl, Own.nil _ _ _ _ _, Below.refl _ _⟩
  case round =>
    obtain ⟨k, hk, rfl, ho, hbel⟩ := hrel
    have HO := Lib.hid ho
    have hsz := hbel.size
    clear ho
    by_cases hlt : k < 16
    · have e1 := (hbel.cell (p := ⟨b, off + k, none⟩) s1).trans (HC.out k (by omega))
      obtain ⟨x0, x1⟩ := HF.out k hlt
      have HCL : Hid (clampF f k = if k % 4 = 3 then f k % 16 else if k % 4 = 0 ∧ 0 < k then f k / 4 * 4 else f k) := rfl
      have HX : Hid (f k = f k) := rfl
      obtain ⟨x, hx⟩ : ∃ x, x = f k := ⟨_, rfl⟩
      rw [← hx] at e1 x0 x1 HCL
      clear hx
      rcases (by omega : (k % 4 = 1 ∨ k % 4 = 2 ∨ k = 0) ∨ k = 3 ∨ k = 7 ∨ k = 11 ∨ k = 15 ∨ k = 4 ∨ k = 8 ∨ k = 12) with h | rfl | rfl | rfl | rfl | rfl | rfl | rfl
      · rw [if_neg (by omega), if_neg (by omega)] at HCL
        have h3 : ((k : Int) == 3) = false := by simp; omega
        have h7 : ((k : Int) == 7) = false := by simp; omega
        have h11 : ((k : Int) == 11) = false := by simp; omega
        have h15 : ((k : Int) == 15) = false := by simp; omega
        have h4 : ((k : Int) == 4) = false := by simp; omega
        have h8 : ((k : Int) == 8) = false := by simp; omega
        have h12 : ((k : Int) == 12) = false := by simp; omega
        clear h
        go_wp2_with (at_builtin; refine append_new rfl _ _ 22 rfl w.heap.size 5 .u8 1 Try.underlying22 Try.info5 _ k (clampF f) wr _ rfl HO.out rfl 1 rfl rfl ?_ (by omega) (by omega) hsz ?_; rotate_right; intro v' w1 hown hgrow)
        · go_roundw
          case rel => exact ⟨k + 1, by omega, by go_num, hown, below_grown (hbel.alloc hsz _) hgrow HO.out (by simp; omega) (Nat.le_refl _)⟩
          case measure => simp [intOf] <;> omega
        · exact HCL.out.symm
      all_goals
        have hcl := HCL.out
        clear HCL
        simp at hcl
        have HCL := Lib.hid hcl
        clear hcl
        go_wp2_with (at_builtin; refine append_new rfl _ _ 22 rfl w.heap.size 5 .u8 1 Try.underlying22 Try.info5 _ _ (clampF f) wr _ rfl HO.out rfl 1 rfl rfl ?_ (by omega) (by omega) hsz ?_; rotate_right; intro v' w1 hown hgrow)
        · go_roundw
          case rel => exact ⟨_, by decide, rfl, hown, below_grown (hbel.alloc hsz _) hgrow HO.out (by simp; omega) (Nat.le_refl _)⟩
          case measure => simp [intOf] <;> omega
        · exact HCL.out.symm
    · obtain rfl : k = 16 := by omega
      go_wp2
      go_ret
      exact ⟨_, rfl, HO.out, hbel⟩

theorem high_dg {K : Int} (h : 0 ≤ K ∧ K < 256 ^ 32) : (∀ i, dg 256 K (16 + i) = dg 256 (K / 256 ^ 16) i) ∧ 0 ≤ K / 256 ^ 16 ∧ K / 256 ^ 16 < 256 ^ 16 := by
  refine ⟨fun i => ?_, Int.ediv_nonneg h.1 (by decide), Int.ediv_lt_of_lt_mul (by decide) (by rw [show (256 : Int) ^ 16 * 256 ^ 16 = 256 ^ 32 by decide]; exact h.2)⟩
  unfold dg
  rw [Int.pow_add, Int.ediv_ediv_of_nonneg (by decide)]
theorem block_digits {F : Nat → Int} {N j n0 : Nat} (hn : n0 = min 16 (N - 16 * j)) (hf : ∀ i, i < n0 → 0 ≤ F (16 * j + i) ∧ F (16 * j + i) < 256) :
    (∀ i, i < n0 → dg 256 (blockN F N j) i = F (16 * j + i)) ∧ dg 256 (blockN F N j) n0 = 1 ∧ 0 ≤ blockN F N j ∧ blockN F N j < 256 ^ (n0 + 1) := by
  have hp := piece_dg (f := fun i => F (16 * j + i)) (n := n0) (by omega) hf
  have hb : blockN F N j = sm 256 (fun i => F (16 * j + i)) n0 + 256 ^ n0 := by unfold blockN; rw [← hn]
  rw [hb]
  refine ⟨fun i hi => ?_, ?_, ?_⟩
  · rw [← hp i (by omega)]
    unfold upd laid
    rw [if_neg (by omega), if_pos (by omega)]; rfl
  · rw [← hp n0 (by omega)]
    exact if_pos rfl
  · have h1 := sm_bound (B := 256) (by decide) (f := fun i => F (16 * j + i)) (n := n0) hf
    have h3 : (256 : Int) ^ (n0 + 1) = 256 * 256 ^ n0 := by rw [Int.pow_succ, Int.mul_comm]
    have h4 : (0 : Int) < 256 ^ n0 := pow_pos' (by decide) _
    rw [h3]
    generalize (256 : Int) ^ n0 = q at *
    omega
theorem acc_next (R : Int) (F : Nat → Int) (N j : Nat) : (accN R F N j + blockN F N j % PP) % PP * R % PP = accN R F N (j + 1) := by
  rw [accN, Int.add_emod_emod, Int.mul_emod, Int.emod_emod_of_dvd _ (Int.dvd_refl PP), ← Int.mul_emod]
theorem PP_digits {X : Int} (h : 0 ≤ X ∧ X < PP) : 0 ≤ X ∧ X < 65536 ^ 10 := ⟨h.1, Int.lt_trans h.2 (by decide)⟩
theorem two_PP {X Y : Int} (h : 0 ≤ X ∧ X < PP) (h' : 0 ≤ Y ∧ Y < PP) : 0 ≤ X + Y ∧ X + Y < 65536 ^ 10 := by
  have h3 : (2 : Int) * PP < 65536 ^ 10 := by decide
  omega
theorem modPP_lt (X : Int) : 0 ≤ X % PP ∧ X % PP < PP := ⟨Int.emod_nonneg _ (by decide), Int.emod_lt_of_pos _ (by decide)⟩

set_option maxRecDepth 100000 in
set_option maxHeartbeats 6400000 in
theorem rTag_any (K : Int) (hK : 0 ≤ K ∧ K < 256 ^ 32) (v : Value) (F : Nat → Int) (N : Nat) (w : World) (hv : Rd .u8 w v N F) (hN : N ≤ 1000000) (hF : ∀ i, i < N → 0 ≤ F i ∧ F i < 256) :
    Calls Try.prog 72 #[.agg (arr .u8 32 (dg 256 K)), v] w fun e w' => e = .returned (.agg (arr .u8 16 (dg 256 (tagN K F N)))) ∧ Below w.heap.size w w' := by
  have HT := Lib.hid hv
  obtain ⟨ta, tc, rfl, t1, t2, t3, t4⟩ := hv
  have HT4 := Lib.hid t4
  have HF := Lib.hid hF
  obtain ⟨hd1, hd2, hd3⟩ := high_dg hK
  have HD1 := Lib.hid hd1
  have cb : ∀ i, i < 16 → 0 ≤ clampF (dg 256 K) i ∧ clampF (dg 256 K) i < 256 := fun i _ => by
    have := dg_bound (by decide : (0 : Int) < 256) K i
    unfold clampF
    split
    · omega
    · split <;> omega
  obtain ⟨R0, hR0⟩ : ∃ R0, R0 = sm 256 (clampF (dg 256 K)) 16 := ⟨_, rfl⟩
  have HR0 : Hid (∀ i, i < 16 → clampF (dg 256 K) i = dg 256 R0 i) := fun i hi => by rw [hR0, dg_sm (by decide) cb i hi]
  have HRB : Hid (0 ≤ R0 ∧ R0 < 256 ^ 16) := by rw [hR0]; exact sm_bound (by decide) cb
  obtain ⟨R, hR⟩ : ∃ R, R = R0 % PP := ⟨_, rfl⟩
  have HRL : Hid (0 ≤ R ∧ R < PP) := by rw [hR]; exact modPP_lt _
  obtain ⟨S, hS⟩ : ∃ S, S = K / 256 ^ 16 := ⟨_, rfl⟩
  have HTN : Hid (tagN K F N = accN R F N ((N + 15) / 16) + S) := by rw [hR, hS, hR0]; rfl
  rw [← hS] at HD1 hd2 hd3
  have HSB := Lib.hid (And.intro hd2 hd3)
  have HRE := Lib.hid hR
  clear hd1 hd2 hd3 t3 t4 hF cb hR0 hR hS
  obtain ⟨TN, hTN⟩ : ∃ TN, TN = tagN K F N := ⟨_, rfl⟩
  rw [← hTN] at HTN ⊢
  clear hTN hK
  go_enter Try.func72, Try.ntmps72
  go_wp2
  go_loopw [5, 6, 7] (fun v u i wr => ∃ k : Nat, k ≤ 16 ∧ i = .int .i64 k ∧ Own .u8 5 (w.heap.size + 2) wr v k (dg 256 K) ∧ Own .u8 5 (w.heap.size + 2) wr u k (dg 256 S) ∧ Apart v u ∧ Arr .u8 wr w.heap.size 32 (dg 256 K) ∧ Arr .u8 wr (w.heap.size + 1) 16 (fun _ => 0) ∧ Below w.heap.size w wr) (fun _ _ i _ => 16 - (intOf i).toNat)
  case atStart => exact ⟨0, Nat.zero_le _, rfl, Own.nil _ _ _ _ _, Own.nil _ _ _ _ _, Apart.nil _, Arr.alloc (Arr.newAt rfl rfl) _, Arr.newAt (by simp) (by rfl), ((Below.refl _ _).alloc (Nat.le_refl _) _).alloc (by simp) _⟩
  case round =>
    obtain ⟨k, hk, rfl, ho, hp, hap, hA, hZ, hbel⟩ := hrel
    have HO := Lib.hid ho
    have HP := Lib.hid hp
    have HAP := Lib.hid hap
    have HA := Lib.hid hA
    have hsz := hbel.size
    have hzl := hZ.lt
    clear ho hp hap
    by_cases hlt : k < 16
    · have e1 := hA.cell k (by omega)
      have hne0 := HO.out.far (show w.heap.size < w.heap.size + 2 by omega)
      have hne1 := HO.out.far (show w.heap.size + 1 < w.heap.size + 2 by omega)
      have hpe0 := HP.out.far (show w.heap.size < w.heap.size + 2 by omega)
      have hpe1 := HP.out.far (show w.heap.size + 1 < w.heap.size + 2 by omega)
      clear hA
      go_upto_region 7 with (at_builtin; refine append_new2 rfl _ _ 22 rfl (w.heap.size + 2) 5 .u8 1 Try.underlying22 Try.info5 _ k (dg 256 K) _ _ rfl HO.out rfl 1 rfl rfl ?_ (by omega) (by omega) (by omega) ?_; rotate_right; intro v' w1 hown hgrow hpl)
      · have hA1 := (Arr.alloc HA.out _).grown hgrow hne0
        have hZ1 := (Arr.alloc hZ _).grown hgrow hne1
        have hP1 := (HP.out.alloc _).kept hgrow HAP.out.symm
        have hap1 := (HP.out.alloc _).apart HAP.out.symm hpl
        have hb1 := below_grown (hbel.alloc hsz _) hgrow HO.out (by simp; omega) (by omega)
        have hs1 : w.heap.size + 2 ≤ w1.heap.size := by have := hZ1.lt; omega
        have HO1 := Lib.hid hown
        have HP1 := Lib.hid hP1
        have HAP1 := Lib.hid hap1
        clear hown hgrow hpl hP1 hap1 hZ hbel HO HP HAP HA e1
        have e2 := hA1.cell (16 + k) (by omega)
        rw [HD1.out] at e2
        go_wp2_with (at_builtin; refine append_new2 rfl _ _ 22 rfl (w.heap.size + 2) 5 .u8 1 Try.underlying22 Try.info5 _ k (dg 256 S) w1 _ rfl HP1.out rfl 1 rfl rfl ?_ (by omega) (by omega) (by omega) ?_; rotate_right; intro v2 w2 hown hgrow hpl)
        · go_roundw
          case rel => exact ⟨k + 1, by omega, by go_num, (HO1.out.alloc _).kept hgrow HAP1.out.symm, hown, (HO1.out.alloc _).apart HAP1.out.symm hpl, (Arr.alloc hA1 _).grown hgrow hpe0, (Arr.alloc hZ1 _).grown hgrow hpe1, below_grown (hb1.alloc hb1.size _) hgrow HP1.out (by simp; omega) (by omega)⟩
          case measure => simp [intOf] <;> omega
        · intro i hi
          exact one0 hi (by rw [show k + i = k by omega])
      · intro i hi
        exact one0 hi (by rw [show k + i = k by omega])
    · obtain rfl : k = 16 := by omega
      have hx1 := HO.out.rd
      have hx2 := Lib.hid HP.out.rd
      clear hA
      go_wp2_with fail
      refine (rClamp_any _ 16 (dg 256 K) _ hx1 (Nat.le_refl _) (fun i _ => dg_bound (by decide) _ _)).mono ?_
      rintro e w1 ⟨c1, rfl, hc1, hb1⟩
      have hc1' := Lib.hid (hc1.rd.congr HR0.out)
      have hbel1 := hbel.trans (hb1.mono hsz)
      have hx3 := Lib.hid (hx2.out.below hb1)
      have hz1 := Lib.hid (hZ.kept hb1)
      clear hx1 hx2 hc1 hb1 hbel hZ HO HAP HP HA
      go_wp2_with fail
      refine (rDigitsP_any _ R0 16 (by decide) HRB.out _ hc1'.out).mono ?_
      rintro e w2 ⟨c2, rfl, hc2, hb2⟩
      have hc2' := Lib.hid hc2.rd
      have hbel2 := hbel1.trans (hb2.mono hbel1.size)
      have hx4 := Lib.hid (hx3.out.below hb2)
      have hz2 := Lib.hid (hz1.out.kept hb2)
      clear hx3 hz1 hc2 hb2 hbel1 hc1'
      go_wp2_with fail
      refine (rModP_any _ R0 8 (by decide) ⟨HRB.out.1, Int.lt_of_lt_of_le HRB.out.2 (by decide)⟩ _ hc2'.out).mono ?_
      rintro e w3 ⟨c3, rfl, hc3, hb3⟩
      rw [← HRE.out] at hc3
      have hc3' := Lib.hid hc3
      have hbel3 := hbel2.trans (hb3.mono hbel2.size)
      have hx5 := Lib.hid (hx4.out.below hb3)
      have hz3 := Lib.hid (hz2.out.kept hb3)
      clear hx4 hz2 hc3 hb3 hbel2 hc2'
      go_wp2_with (refine make_ints rfl _ _ 44 rfl w3.heap.size 3 .i64 8 Try.underlying44 Try.info3 .i64 .i64 10 rfl rfl (by decide) (by decide) (Nat.le_refl _) ?_; intro w4 hown4 hgrow4)
      have hb4 : Below w3.heap.size w3 w4 := below_grown0 (Below.refl _ _) hgrow4 (Nat.le_refl _)
      have hc4 := Lib.hid (hc3'.out.below hb4)
      have hbel4 := hbel3.trans (hb4.mono hbel3.size)
      have hx6 := Lib.hid (hx5.out.below hb4)
      have hz4 := Lib.hid (hz3.out.kept hb4)
      have HT4' : Hid (0 < N → ∃ b o, ta = some ⟨b, o, none⟩ ∧ b < w4.heap.size ∧ ∀ i, i < N → w4.cell? ⟨b, o + i, none⟩ = some (.int .u8 (F i))) := by
        intro hn
        obtain ⟨b, o, rfl, h1, h2⟩ := HT4.out hn
        exact ⟨b, o, rfl, by have := hbel4.size; omega, fun i hi => (hbel4.cell (p := ⟨b, o + i, none⟩) h1).trans (h2 i hi)⟩
      have ha4 := Lib.hid (hown4.rd.congr fun i _ => show (0 : Int) = dg 65536 (accN R F N 0) i by simp [accN, dg])
      have hs4 := hbel4.size
      clear hx5 hz3 hb4 hbel3 hc3' hown4 hgrow4
      go_loopw [9, 10] (fun v i wr => ∃ j q : Nat, j ≤ (N + 15) / 16 ∧ q = 16 * j ∧ i = .int .i64 q ∧ Rd .i64 wr v 10 (dg 65536 (accN R F N j)) ∧ Below w4.heap.size w4 wr) (fun _ i _ => N + 15 - (intOf i).toNat)
      case atStart => exact ⟨0, 0, Nat.zero_le _, rfl, rfl, ha4.out, Below.refl _ _⟩
      case round =>
        obtain ⟨j, q, hj, hq, rfl, hv9, hbel⟩ := hrel
        obtain ⟨W9, hW9⟩ : ∃ W9, W9 = wr := ⟨_, rfl⟩
        subst hW9
        have hqb : q ≤ N + 15 := by omega
        have HQ := Lib.hid hq
        clear hq
        have HV9 := Lib.hid hv9
        have hsw := hbel.size
        clear hv9 ha4
        by_cases hlt : q < N
        · obtain ⟨n0, hn0⟩ : ∃ n0, n0 = min 16 (N - 16 * j) := ⟨_, rfl⟩
          have hfb : ∀ i, i < n0 → 0 ≤ F (16 * j + i) ∧ F (16 * j + i) < 256 := fun i hi => HF.out (16 * j + i) (by have := HQ.out; omega)
          obtain ⟨g1, g2, g3⟩ := block_digits hn0 hfb
          obtain ⟨b, hb⟩ : ∃ b, b = blockN F N j := ⟨_, rfl⟩
          have HACC := Lib.hid (acc_next R F N j)
          rw [← hb] at g1 g2 g3 HACC
          have G1 := Lib.hid g1
          have G2 := Lib.hid g2
          have G3 := Lib.hid g3
          have hn1 : n0 ≤ 16 ∧ q + n0 ≤ N ∧ 0 < n0 := by have := HQ.out; omega
          have hn2 : n0 < 16 → q + n0 = N := by have := HQ.out; omega
          have HN2 := Lib.hid hn2
          have HBel := Lib.hid hbel
          clear g1 g2 g3 hb hfb hn0 hn2 hbel
          go_wp2
          go_loopw [11, 12] (fun v i wq => ∃ k p : Nat, k ≤ n0 ∧ p = q + k ∧ i = .int .i64 p ∧ Own .u8 5 W9.heap.size wq v k (dg 256 b) ∧ Below W9.heap.size W9 wq) (fun _ i _ => q + n0 - (intOf i).toNat)
          case atStart => exact ⟨0, q, Nat.zero_le _, rfl, rfl, Own.nil _ _ _ _ _, Below.refl _ _⟩
          case round =>
            obtain ⟨k, p, hk, hp, rfl, ho, hbel⟩ := hrel
            have HO := Lib.hid ho
            have hsp := hbel.size
            obtain ⟨tb, to, rfl, tlt, tcell⟩ := HT4'.out (by omega)
            have hbw := HBel.out.trans (hbel.mono hsw)
            clear ho
            by_cases hkt : k < n0
            · have e1 := (hbw.cell (p := ⟨tb, to + p, none⟩) tlt).trans (tcell p (by omega))
              have hp1 : p < q + 16 := by omega
              have hp2 : p < N := by omega
              have HP1 := Lib.hid hp
              have HX : Hid (F p = dg 256 b k) := by unfold Hid; rw [G1.out k hkt, hp, HQ.out]
              clear tcell hp
              go_wp2_with (at_builtin; refine append_new rfl _ _ 22 rfl W9.heap.size 5 .u8 1 Try.underlying22 Try.info5 _ k (dg 256 b) _ _ rfl HO.out rfl 1 rfl rfl ?_ (by omega) (by omega) hsp ?_; rotate_right; intro v' w5 hown hgrow)
              · go_roundw
                case rel => exact ⟨k + 1, p + 1, by omega, by have := HP1.out; omega, by go_num, hown, below_grown (hbel.alloc hsp _) hgrow HO.out (by simp; omega) (Nat.le_refl _)⟩
                case measure => simp [intOf] <;> (have := HP1.out; omega)
              · intro i hi
                exact one0 hi (by rw [show k + i = k by omega]; exact HX.out)
            · obtain rfl : k = n0 := by omega
              have hp1 : p < q + 16 ∧ p = N ∨ p = q + 16 := by
                by_cases h16 : k < 16
                · have := HN2.out h16; omega
                · omega
              have HB1 : Hid (dg 256 b k = 1) := G2.out
              clear hp tcell hkt
              rcases hp1 with ⟨hp1, hp2⟩ | hp1
              all_goals
                subst p
                go_wp2_with (at_builtin; refine append_new rfl _ _ 22 rfl W9.heap.size 5 .u8 1 Try.underlying22 Try.info5 _ k (dg 256 b) _ _ rfl HO.out rfl 1 rfl rfl ?_ (by omega) (by omega) hsp ?_; rotate_right; intro v' w5 hown hgrow)
                · have hb5 := below_grown (hbel.alloc hsp _) hgrow HO.out (by simp; omega) (Nat.le_refl _)
                  have HO5 := Lib.hid hown.rd
                  have H95 := Lib.hid (HV9.out.below hb5)
                  have HB5 := Lib.hid (HBel.out.trans (hb5.mono hsw))
                  have s5 := hb5.size
                  clear hown hgrow hb5 HO hbel hbw
                  refine (rDigitsP_any _ b (k + 1) (by omega) G3.out _ HO5.out).mono ?_
                  rintro e w6 ⟨c6, rfl, hc6, hb6⟩
                  have H96 := Lib.hid (H95.out.below hb6)
                  have HB6 := Lib.hid (HB5.out.trans (hb6.mono HB5.out.size))
                  have HC6 := Lib.hid hc6.rd
                  clear hc6 hb6 H95 HB5 HO5
                  go_wp2_with fail
                  refine (rModP_any _ b ((k + 1 + 1) / 2) (by omega) (half_boundP G3.out) _ HC6.out).mono ?_
                  rintro e w7 ⟨c7, rfl, hc7, hb7⟩
                  have H97 := Lib.hid (H96.out.below hb7)
                  have HB7 := Lib.hid (HB6.out.trans (hb7.mono HB6.out.size))
                  have HC7 := Lib.hid hc7
                  clear hc7 hb7 H96 HB6 HC6
                  go_wp2_with fail
                  refine (rAddP_any _ _ (accN R F N j) (b % PP) _ H97.out HC7.out (two_PP (accN_bound R F N j) (modPP_lt b))).mono ?_
                  rintro e w8 ⟨c8, rfl, hc8, hb8⟩
                  have HB8 := Lib.hid (HB7.out.trans (hb8.mono HB7.out.size))
                  have HC8 := Lib.hid hc8
                  clear hc8 hb8 H97 HB7 HC7
                  go_wp2_with fail
                  refine (rMulP_any _ _ ((accN R F N j + b % PP) % PP) R _ HC8.out (hc4.out.below HB8.out) (PP_digits (modPP_lt _)) (PP_digits HRL.out)).mono ?_
                  rintro e w9 ⟨c9, rfl, hc9, hb9⟩
                  rw [HACC.out] at hc9
                  have HB9 := Lib.hid (HB8.out.trans (hb9.mono HB8.out.size))
                  have HC9 := Lib.hid hc9
                  clear hc9 hb9 HB8 HC8
                  go_wp2
                  go_roundw
                  case rel => exact ⟨j + 1, q + 16, by have := HQ.out; omega, by have := HQ.out; omega, by go_num, HC9.out, HB9.out⟩
                  case measure => simp [intOf] <;> omega
                · first | exact HB1.out.symm | (intro i hi; exact one0 hi (by rw [show k + i = k by omega]; exact HB1.out.symm))
        · obtain rfl : j = (N + 15) / 16 := by have := HQ.out; omega
          obtain ⟨AC, hAC⟩ : ∃ AC, AC = accN R F N ((N + 15) / 16) := ⟨_, rfl⟩
          rw [← hAC] at HTN HV9
          clear hAC
          have hx7 := Lib.hid (hx6.out.below hbel)
          have hbW := Lib.hid (hbel4.trans (hbel.mono hs4))
          have hz7 := Lib.hid (hz4.out.kept hbel)
          clear hx6 hbel hz4 hbel4 hc4 HT4'
          go_wp2_with fail
          refine (rDigitsP_any _ S 16 (by decide) HSB.out _ hx7.out).mono ?_
          rintro e w5 ⟨c5, rfl, hc5, hb5⟩
          obtain ⟨xa, xc, rfl, xl, xm, xz, xh⟩ := HV9.out.below hb5
          obtain ⟨xb, xo, rfl, xs, xe⟩ := xh (by decide)
          obtain ⟨ya, yc, rfl, yl, ym, yz, yh⟩ := hc5.rd
          obtain ⟨yb, yo, rfl, ys, ye⟩ := yh (by decide)
          have XE := Lib.hid xe
          have YE := Lib.hid ye
          have hb6 := Lib.hid (hbW.out.trans (hb5.mono hbW.out.size))
          have hz8 := Lib.hid (hz7.out.kept hb5)
          have hs5 := hb6.out.size
          clear xz yz xe ye xh yh hc5 hb5 hx7 hz7 hbW HV9
          go_upto_region 22 with (fail)
          refine wp_world (fun w6 => Arr .u8 w6 w5.heap.size 16 (fun _ => 0) ∧ Below w5.heap.size w5 w6) ⟨Arr.newAt rfl (by rfl), (Below.refl _ _).alloc (Nat.le_refl _) _⟩ ?_
          rintro w6 ⟨hO, hb7⟩
          go_wp2
          go_loopw [15, 16] (fun c i wr => ∃ (k : Nat) (z : Int), k ≤ 8 ∧ z = carS AC S k ∧ 0 ≤ z ∧ z ≤ 1 ∧ c = .int .i64 z ∧ i = .int .i64 k ∧ Arr .u8 wr w5.heap.size 16 (upto (2 * k) (dg 256 (AC + S)) (fun _ => 0)) ∧ Below w5.heap.size w5 wr) (fun _ i _ => 8 - (intOf i).toNat)
          case atStart => exact ⟨0, 0, Nat.zero_le _, (carS_zero _ _).symm, by decide, by decide, rfl, rfl, by rw [Nat.mul_zero, upto_zero]; exact hO, hb7⟩
          case round =>
            clear hO hb7
            obtain ⟨k, z, hk, hz, z0, z1, rfl, rfl, hO, hbel⟩ := hrel
            have HZ := Lib.hid hz
            clear hz
            by_cases hlt : k < 8
            · have c1 := (hbel.cell (p := ⟨xb, xo + k, none⟩) xs).trans (XE.out k (by omega))
              have c2 := (hbel.cell (p := ⟨yb, yo + k, none⟩) ys).trans (YE.out k (by omega))
              have e2 := hO.cell (2 * k) (by omega)
              have e3 := hO.cell (2 * k + 1) (by omega)
              have f2 := hO.free (2 * k)
              have f3 := hO.free (2 * k + 1)
              have HOO := Lib.hid hO
              obtain ⟨x0, x1⟩ := dg_bound (by decide : (0 : Int) < 65536) AC k
              obtain ⟨y0, y1⟩ := dg_bound (by decide : (0 : Int) < 65536) S k
              have u1 := wrap_i64_id (x := dg 65536 AC k + dg 65536 S k) (by omega) (by omega)
              have u2 := wrap_i64_id (x := dg 65536 AC k + dg 65536 S k + z) (by omega) (by omega)
              obtain ⟨s1, s2⟩ := carS_step AC S k
              rw [← HZ.out] at s1 s2
              have HS2 := Lib.hid s2
              have HBa : Hid ((dg 65536 AC k + dg 65536 S k + z) % 256 = dg 256 (AC + S) (2 * k)) := by unfold Hid; rw [← byte0, ← s1]; omega
              have HBb : Hid ((dg 65536 AC k + dg 65536 S k + z) / 256 % 256 = dg 256 (AC + S) (2 * k + 1)) := by unfold Hid; rw [← byte1, ← s1]; omega
              clear s1 s2 hO
              go_wp2
              go_quiet (fail)
              clear u1 u2
              go_wp2
              go_roundw
              case rel => exact ⟨k + 1, _, by omega, HS2.out, by omega, by omega, rfl, by go_num, by rw [show 2 * (k + 1) = 2 * k + 1 + 1 by omega, ← upto_step HBb.out, ← upto_step HBa.out]; exact ((HOO.out.drewN _).set (2 * k) _).set (2 * k + 1) _, ((below_drewN hbel _).setCell (Nat.le_refl _) _).setCell (Nat.le_refl _) _⟩
              case measure => simp [intOf] <;> omega
            · obtain rfl : k = 8 := by omega
              have hzf := hz8.out.kept hbel
              have hbf := hb6.out.trans (hbel.mono hs5)
              have hzl := hz8.out.lt
              clear hbel
              go_wp2_with (first
                | (refine load_arr rfl 70 _ rfl .u8 w5.heap.size 16 _ 5 Try.underlying70 Try.size70 rfl hO ?_)
                | (refine store_arr rfl 70 _ _ rfl .u8 (w.heap.size + 1) 16 (fun _ => 0) _ Try.size70 rfl rfl hzf ?_))
              refine bodyPost_ret (results_arr rfl _ _ .u8 (w.heap.size + 1) 16 _ 5 rfl (hzf.setRow _ _) Try.underlying70 Try.size70) rfl ⟨?_, below_setRow' hbf (by omega) _⟩
              rw [HTN.out, arr_congr (upto_full _ _ (Nat.le_refl _))]
end Go.Proofs.Ytgobodhcamgidaa
