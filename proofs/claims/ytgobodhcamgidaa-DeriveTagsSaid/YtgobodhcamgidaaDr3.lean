/-
  bastilleref12.Tag: what it answers. Conditions: named in each theorem.
-/
import Derived.Test.YtgobodhcamgidaaDr2
set_option linter.unusedVariables false
set_option linter.unusedSimpArgs false
namespace Go.Proofs.Ytgobodhcamgidaa
open Go.RowKit Go.Bas
attribute [local go_sem ↓] Go.wp_at_zero Go.wp_at_succ

set_option maxRecDepth 100000 in
set_option maxHeartbeats 3200000 in
theorem rdTag_any (vk : Value) (nk : Nat) (key : Nat → Int) (vb : Value) (n : Nat) (F : Nat → Int) (w : World) (hv : Rd .u8 w vk nk key) (hk1 : nk ≤ 1000000) (hk : ∀ i, i < nk → 0 ≤ key i ∧ key i < 256)
    (hb : Rd .u8 w vb n F) (hn2 : n ≤ 900000) (hF : ∀ i, i < n → 0 ≤ F i ∧ F i < 256) :
    Calls Try.prog 28 #[vk, vb] w fun e w' => e = .returned (.agg (arr .u8 64 (tagB nk key n F))) ∧ Below w.heap.size w w' := by
  obtain ⟨K1, hK1⟩ : ∃ K1, K1 = padK nk key 54 := ⟨_, rfl⟩
  obtain ⟨K2, hK2⟩ : ∃ K2, K2 = padK nk key 92 := ⟨_, rfl⟩
  have HP1 := Lib.hid (fun w h => rdPad_any vk nk key 54 w h hk1 hk (by decide))
  have HP2 := Lib.hid (fun w h => rdPad_any vk nk key 92 w h hk1 hk (by decide))
  have hb1 : ∀ i, i < 128 → 0 ≤ K1 i ∧ K1 i < 256 := by rw [hK1]; exact fun i _ => padK_bound _ _ _ i
  have hb2 : ∀ i, i < 128 → 0 ≤ K2 i ∧ K2 i < 256 := by rw [hK2]; exact fun i _ => padK_bound _ _ _ i
  obtain ⟨C1, hC1⟩ : ∃ C1, C1 = catF 128 K1 F := ⟨_, rfl⟩
  obtain ⟨S1, hS1⟩ : ∃ S1, S1 = sumB (128 + n) C1 := ⟨_, rfl⟩
  have hsb : ∀ i, i < 64 → 0 ≤ S1 i ∧ S1 i < 256 := by rw [hS1]; exact fun i _ => sumB_bound _ _ i
  obtain ⟨C2, hC2⟩ : ∃ C2, C2 = catF 128 K2 S1 := ⟨_, rfl⟩
  obtain ⟨TG, hTG⟩ : ∃ TG, TG = sumB (128 + 64) C2 := ⟨_, rfl⟩
  have HS1 := Lib.hid (fun v w h => rSum_any v (128 + n) C1 w h (by omega) (by rw [hC1]; exact catF_bound hb1 hF))
  have HS2 := Lib.hid (fun v w h => rSum_any v (128 + 64) C2 w h (by decide) (by rw [hC2]; exact catF_bound hb2 hsb))
  have HLL := Lib.hid (fun w => rList_any S1 hsb w)
  have e1 : tagB nk key n F = TG := by rw [hTG, hC2, hS1, hC1, hK1, hK2]; rfl
  have HC1 : Hid ((∀ i, i < 128 → K1 i = C1 i) ∧ ∀ i, i < n → C1 (128 + i) = F i) := by rw [hC1]; exact ⟨fun i hi => (catF_lo hi).symm, fun i _ => catF_hi⟩
  have HC2 : Hid ((∀ i, i < 128 → K2 i = C2 i) ∧ ∀ i, i < 64 → C2 (128 + i) = S1 i) := by rw [hC2]; exact ⟨fun i hi => (catF_lo hi).symm, fun i _ => catF_hi⟩
  rw [e1]
  rw [← hS1] at HS1
  rw [← hTG] at HS2
  rw [← hK1] at HP1
  rw [← hK2] at HP2
  have HV := Lib.hid hv
  have HB := Lib.hid hb
  obtain ⟨va, vc, rfl, v1, v2, _, _⟩ := hv
  obtain ⟨ba, bc, rfl, b1, b2, _, _⟩ := hb
  clear hk hF hS1 hTG e1 hK1 hK2 hC1 hC2 hsb hb1 hb2
  go_enter Try.func28, Try.ntmps28
  go_upto_region 1 with (fail)
  refine wp_world (fun w1 => Arr .u8 w1 w.heap.size 64 (fun _ => 0) ∧ Below w.heap.size w w1 ∧ w1.heap.size = w.heap.size + 1) ⟨Arr.newAt rfl (by rfl), (Below.refl _ _).alloc (Nat.le_refl _) _, by simp⟩ ?_
  rintro w1 ⟨hZ, hb1, hs1⟩
  have HV1 := Lib.hid (HV.out.below hb1)
  have HB1 := Lib.hid (HB.out.below hb1)
  clear HV HB
  go_wp2_with fail
  refine (HP1.out _ HV1.out).mono ?_
  rintro e w2 ⟨p1, rfl, ho2, hb2⟩
  have HO2 := Lib.hid (ho2.congr HC1.out.1)
  have HB2 := Lib.hid (HB1.out.below hb2)
  have hs12 := hb2.size
  obtain ⟨g1, c1, rfl, _⟩ := HO2.out.form (by decide)
  clear ho2 HB1
  go_wp2_with (at_builtin; refine append_rd rfl _ _ 22 rfl w1.heap.size 5 .u8 1 Try.underlying22 Try.info5 _ 128 C1 HO2.out rfl _ n F HB2.out rfl HC1.out.2 (by omega) (by omega) hs12 ?_; intro v3 w3 hown3 hgr3)
  have hbl3 := below_grown hb2 hgr3 HO2.out hs12 (Nat.le_refl _)
  have hZ3 := hZ.kept hbl3
  have hbel3 := hb1.trans (hbl3.mono hb1.size)
  have HV3 := Lib.hid (HV1.out.below hbl3)
  have HR3 := Lib.hid hown3.rd
  obtain ⟨g3, c3, rfl, _⟩ := hown3.form (by omega)
  clear hZ hb1 HV1 hbl3 hown3 hgr3 HO2 HB2 hb2
  refine (HP2.out _ HV3.out).mono ?_
  rintro e w4 ⟨p2, rfl, ho4, hb4⟩
  have HO4 := Lib.hid (ho4.congr HC2.out.1)
  have HR4 := Lib.hid (HR3.out.below hb4)
  have hs34 := hb4.size
  obtain ⟨g4, c4, rfl, _⟩ := HO4.out.form (by decide)
  clear ho4 HR3
  go_wp2_with fail
  refine (HS1.out _ _ HR4.out).mono ?_
  rintro e w5 ⟨rfl, hb5⟩
  go_wp2_with fail
  refine (HLL.out _).mono ?_
  rintro e w6 ⟨v6, rfl, ho6, hb6⟩
  have hb46 := hb5.trans (hb6.mono hb5.size)
  have HO6 := Lib.hid (HO4.out.below hb46)
  have hb36 := hb4.trans (hb46.mono hs34)
  have hs36 := hb36.size
  have HR6 := Lib.hid ho6.rd
  obtain ⟨a6, c6, rfl, q1, q2, _, _⟩ := ho6.rd
  clear HO4 HR4 hb4 hb5 hb6 hb46 ho6
  go_wp2_with (at_builtin; refine append_rd rfl _ _ 22 rfl w3.heap.size 5 .u8 1 Try.underlying22 Try.info5 _ 128 C2 HO6.out rfl _ 64 S1 HR6.out rfl HC2.out.2 (by omega) (by omega) hs36 ?_; intro v7 w7 hown7 hgr7)
  have hbl7 := below_grown hb36 hgr7 HO6.out hs36 (Nat.le_refl _)
  have hZ7 := hZ3.kept hbl7
  have hbel7 := hbel3.trans (hbl7.mono hbel3.size)
  have HR7 := Lib.hid hown7.rd
  obtain ⟨g7, c7, rfl, _⟩ := hown7.form (by decide)
  clear hbl7 hZ3 hbel3 hown7 hgr7 HO6 HR6 hb36
  refine (HS2.out _ _ HR7.out).mono ?_
  rintro e w8 ⟨rfl, hb8⟩
  have hZ8 := hZ7.kept hb8
  have hbel8 := hbel7.trans (hb8.mono hbel7.size)
  clear hZ7 hb8 hbel7
  go_wp2_with (refine store_arr rfl 24 _ _ rfl .u8 w.heap.size 64 (fun _ => 0) TG Try.size24 rfl rfl hZ8 ?_)
  exact bodyPost_ret (results_arr rfl _ _ .u8 w.heap.size 64 _ 5 rfl (hZ8.setRow 64 TG) Try.underlying24 Try.size24) rfl ⟨rfl, below_setRow' hbel8 (Nat.le_refl _) _⟩
end Go.Proofs.Ytgobodhcamgidaa
