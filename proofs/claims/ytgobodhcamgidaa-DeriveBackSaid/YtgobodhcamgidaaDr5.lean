/-
  bastilleref03.List, bastilleref08.Bytes, bastilleref12.pad, bastilleref12.Tag: what each answers. Conditions: named in each theorem.
  bastilleref12.Tag: what it answers. Conditions: named in each theorem.
  bastilleref12.Key: what it answers. Conditions: named in each theorem.
-/
import Derived.Test.YtgobodhcamgidaaDr4
import Derived.Test.YtgobodhcamgidaaSh9
import Derived.Test.YtgobodhcamgidaaSh12
import Derived.Test.YtgobodhcamgidaaDrI
import Derived.Test.YtgobodhcamgidaaPuts
set_option linter.unusedVariables false
set_option linter.unusedSimpArgs false
namespace Go.Proofs.Ytgobodhcamgidaa
open Go.RowKit Go.Bas
attribute [local go_sem ↓] Go.wp_at_zero Go.wp_at_succ

set_option maxRecDepth 100000 in
set_option maxHeartbeats 1600000 in
theorem rList_any (f : Nat → Int) (hf : ∀ i, i < 64 → 0 ≤ f i ∧ f i < 256) (w : World) :
    Calls Try.prog 57 #[.agg (arr .u8 64 f)] w fun e w' => ∃ v, e = .returned v ∧ Go.Bas.Own .u8 5 (w.heap.size + 1) w' v 64 f ∧ Below w.heap.size w w' := by
  have HF := Lib.hid hf
  clear hf
  go_enter Try.func57, Try.ntmps57
  have hA1 : Arr .u8 (w.alloc (.cells (arr .u8 64 f) 24)) w.heap.size 64 f := Arr.newAt rfl rfl
  have hb1 : Below w.heap.size w (w.alloc (.cells (arr .u8 64 f) 24)) := (Below.refl _ _).alloc (Nat.le_refl _) _
  go_wp2
  go_loopw [3, 4] (fun v i wr => ∃ k : Nat, k ≤ 64 ∧ i = .int .i64 (k : Int) ∧ Go.Bas.Own .u8 5 (w.heap.size + 1) wr v k f ∧ Arr .u8 wr w.heap.size 64 f ∧ Below w.heap.size w wr ∧ w.heap.size + 1 ≤ wr.heap.size) (fun _ i _ => 64 - (intOf i).toNat)
  case atStart => exact ⟨0, Nat.zero_le _, rfl, Go.Bas.Own.nil _ _ _ _ _, hA1, hb1, by simp⟩
  case round =>
    clear hA1 hb1
    obtain ⟨k, hk, rfl, ho, hA, hbel, hsz⟩ := hrel
    have HO := Lib.hid ho
    have HA := Lib.hid hA
    clear ho hA
    by_cases hlt : k < 64
    · obtain ⟨x, hx⟩ : ∃ x, x = f k := ⟨_, rfl⟩
      have x01 := HF.out k hlt
      have e1 := HA.out.cell k hlt
      rw [← hx] at x01 e1
      obtain ⟨x0, x1⟩ := x01
      have HX := Lib.hid hx
      have hne := HO.out.far (Nat.lt_succ_self w.heap.size)
      clear hx
      go_wp2_with (at_builtin; refine append_new rfl _ _ 22 rfl (w.heap.size + 1) 5 .u8 1 Try.underlying22 Try.info5 _ k f _ _ rfl HO.out rfl 1 rfl rfl ?_ (by omega) (by omega) (by omega) ?_; rotate_right; intro v' w6 hown hgrow)
      · go_roundw
        case rel => exact ⟨k + 1, by omega, by go_num, hown, (Arr.alloc HA.out _).grown hgrow hne, below_grown (hbel.alloc (by omega) _) hgrow HO.out (by simp; omega) (by omega), by have := hgrow.size; simp at this; omega⟩
        case measure => simp [intOf] <;> omega
      · first | exact HX.out | (intro i hi; exact one0 hi (by rw [show k + i = k by omega]; exact HX.out))
    · obtain rfl : k = 64 := by omega
      have HO2 := HO.out
      go_wp2
      go_ret
      exact ⟨_, rfl, HO2, hbel⟩

set_option maxRecDepth 100000 in
set_option maxHeartbeats 1600000 in
theorem rBytes32_any (f : Nat → Int) (hf : ∀ i, i < 32 → 0 ≤ f i ∧ f i < 256) (w : World) :
    Calls Try.prog 63 #[.agg (arr .u8 32 f)] w fun e w' => ∃ v, e = .returned v ∧ Go.Bas.Own .u8 5 (w.heap.size + 1) w' v 32 f ∧ Below w.heap.size w w' := by
  have HF := Lib.hid hf
  clear hf
  go_enter Try.func63, Try.ntmps63
  have hA1 : Arr .u8 (w.alloc (.cells (arr .u8 32 f) 26)) w.heap.size 32 f := Arr.newAt rfl rfl
  have hb1 : Below w.heap.size w (w.alloc (.cells (arr .u8 32 f) 26)) := (Below.refl _ _).alloc (Nat.le_refl _) _
  go_wp2
  go_loopw [3, 4] (fun v i wr => ∃ k : Nat, k ≤ 32 ∧ i = .int .i64 (k : Int) ∧ Go.Bas.Own .u8 5 (w.heap.size + 1) wr v k f ∧ Arr .u8 wr w.heap.size 32 f ∧ Below w.heap.size w wr ∧ w.heap.size + 1 ≤ wr.heap.size) (fun _ i _ => 32 - (intOf i).toNat)
  case atStart => exact ⟨0, Nat.zero_le _, rfl, Go.Bas.Own.nil _ _ _ _ _, hA1, hb1, by simp⟩
  case round =>
    clear hA1 hb1
    obtain ⟨k, hk, rfl, ho, hA, hbel, hsz⟩ := hrel
    have HO := Lib.hid ho
    have HA := Lib.hid hA
    clear ho hA
    by_cases hlt : k < 32
    · obtain ⟨x, hx⟩ : ∃ x, x = f k := ⟨_, rfl⟩
      have x01 := HF.out k hlt
      have e1 := HA.out.cell k hlt
      rw [← hx] at x01 e1
      obtain ⟨x0, x1⟩ := x01
      have HX := Lib.hid hx
      have hne := HO.out.far (Nat.lt_succ_self w.heap.size)
      clear hx
      go_wp2_with (at_builtin; refine append_new rfl _ _ 22 rfl (w.heap.size + 1) 5 .u8 1 Try.underlying22 Try.info5 _ k f _ _ rfl HO.out rfl 1 rfl rfl ?_ (by omega) (by omega) (by omega) ?_; rotate_right; intro v' w6 hown hgrow)
      · go_roundw
        case rel => exact ⟨k + 1, by omega, by go_num, hown, (Arr.alloc HA.out _).grown hgrow hne, below_grown (hbel.alloc (by omega) _) hgrow HO.out (by simp; omega) (by omega), by have := hgrow.size; simp at this; omega⟩
        case measure => simp [intOf] <;> omega
      · first | exact HX.out | (intro i hi; exact one0 hi (by rw [show k + i = k by omega]; exact HX.out))
    · obtain rfl : k = 32 := by omega
      have HO2 := HO.out
      go_wp2
      go_ret
      exact ⟨_, rfl, HO2, hbel⟩

set_option maxRecDepth 100000 in
set_option maxHeartbeats 3200000 in
theorem rdPad_any (v : Value) (n : Nat) (key : Nat → Int) (c : Int) (w : World) (hv : Rd .u8 w v n key) (hn : n ≤ 1000000) (hk : ∀ i, i < n → 0 ≤ key i ∧ key i < 256) (hc : 0 ≤ c ∧ c < 256) :
    Calls Try.prog 56 #[v, .int .u8 c] w fun e w' => ∃ u, e = .returned u ∧ Go.Bas.Own .u8 5 w.heap.size w' u 128 (padK n key c) ∧ Below w.heap.size w w' := by
  obtain ⟨PK, hPK⟩ : ∃ PK, PK = padK n key c := ⟨_, rfl⟩
  have HS := Lib.hid (fun w h => rSum_any v n key w h hn hk)
  have HLL := Lib.hid (fun w => rList_any (sumB n key) (fun i _ => sumB_bound n key i) w)
  have HC0 := Lib.hid (xor8_0 hc)
  have HA1 : Hid (128 < n → (∀ i, i < 64 → bits .xor .u8 (sumB n key i) c = PK i) ∧ ∀ i, 64 ≤ i → c = PK i) := by
    rw [hPK]; intro h
    refine ⟨fun i hi => ?_, fun i hi => ?_⟩
    · unfold padK keyK; rw [if_pos h, if_pos hi]
    · unfold padK keyK; rw [if_pos h, if_neg (by omega)]; exact HC0.out.symm
  have HA2 : Hid (¬ 128 < n → (∀ i, i < n → bits .xor .u8 (key i) c = PK i) ∧ ∀ i, n ≤ i → c = PK i) := by
    rw [hPK]; intro h
    refine ⟨fun i hi => ?_, fun i hi => ?_⟩
    · unfold padK keyK; rw [if_neg h, if_pos hi]
    · unfold padK keyK; rw [if_neg h, if_neg (by omega)]; exact HC0.out.symm
  have HSBB : Hid (∀ i, 0 ≤ sumB n key i ∧ sumB n key i < 256) := sumB_bound n key
  rw [← hPK]
  have HV := Lib.hid hv
  have HK := Lib.hid hk
  obtain ⟨va, vc, rfl, v1, v2, _, _⟩ := hv
  obtain ⟨c0, c1⟩ := hc
  clear hk hPK
  by_cases hlong : 128 < n
  case' pos =>
    obtain ⟨SB, hSB⟩ : ∃ SB, SB = sumB n key := ⟨_, rfl⟩
    rw [← hSB] at HS HLL HA1 HSBB
    clear hSB
    have HL := Lib.hid (HA1.out hlong)
    go_enter Try.func56, Try.ntmps56
    go_wp2_with fail
    refine (HS.out _ HV.out).mono ?_
    rintro e w1 ⟨rfl, hb1⟩
    go_wp2_with fail
    refine (HLL.out _).mono ?_
    rintro e w2 ⟨kv, rfl, ho, hb2⟩
    have hbel := hb1.trans (hb2.mono hb1.size)
    have HKV := Lib.hid ho.rd
    have HKB : Hid (∀ i, i < 64 → 0 ≤ SB i ∧ SB i < 256) := fun i _ => HSBB.out i
    obtain ⟨ka, kc, rfl, k1, k2, _, _⟩ := ho.rd
    clear hb1 hb2 ho
  case' neg =>
    have hn128 : n ≤ 128 := by omega
    have HL := Lib.hid (HA2.out hlong)
    have HKV := HV
    have HKB := HK
    have hbel := Below.refl w.heap.size w
    obtain ⟨k1, k2⟩ : n ≤ vc ∧ vc ≤ 9223372036854775807 := ⟨v1, v2⟩
    go_enter Try.func56, Try.ntmps56
  case pos =>
    go_wp2
    go_loopw [6, 7] (fun u i wr => ∃ k : Nat, k ≤ 128 ∧ i = .int .i64 (k : Int) ∧ Go.Bas.Own .u8 5 w2.heap.size wr u k PK ∧ Below w2.heap.size w2 wr) (fun _ i _ => 128 - (intOf i).toNat)
    case atStart => exact ⟨0, Nat.zero_le _, rfl, Go.Bas.Own.nil _ _ _ _ _, Below.refl _ _⟩
    case round =>
      obtain ⟨k, hk, rfl, ho, hbw⟩ := hrel
      have HO := Lib.hid ho
      have hsw := hbw.size
      have hs0 := hbel.size
      clear ho
      by_cases hlt : k < 128
      · by_cases hkn : k < 64
        · obtain ⟨x, hx⟩ : ∃ x, x = SB k := ⟨_, rfl⟩
          have x01 := HKB.out k hkn
          obtain ⟨b, o, rfl, hb, hcc⟩ := HKV.out.formAt (by omega)
          have e1 := (hbw.cell (p := ⟨b, o + k, none⟩) hb).trans (hcc k hkn)
          have hpk := HL.out.1 k hkn
          rw [← hx] at x01 e1 hpk
          obtain ⟨x0, x1⟩ := x01
          have HPKX := Lib.hid hpk
          clear hx hcc hpk
          go_wp2_with (at_builtin; refine append_new rfl _ _ 22 rfl w2.heap.size 5 .u8 1 Try.underlying22 Try.info5 _ k PK _ _ rfl HO.out rfl 1 rfl rfl ?_ (by omega) (by omega) (by omega) ?_; rotate_right; intro v' w6 hown hgrow)
          · go_roundw
            case rel =>
              have hbx : Below w2.heap.size w2 w6 := below_grown (hbw.alloc hsw _) hgrow HO.out (by simp; omega) (Nat.le_refl _)
              exact ⟨k + 1, by omega, by go_num, hown, hbx⟩
            case measure => simp [intOf] <;> omega
          · first | exact HPKX.out | (intro i hi; exact one0 hi (by rw [show k + i = k by omega]; exact HPKX.out))
        · have HPKX := Lib.hid (HL.out.2 k (by omega))
          go_wp2_with (at_builtin; refine append_new rfl _ _ 22 rfl w2.heap.size 5 .u8 1 Try.underlying22 Try.info5 _ k PK _ _ rfl HO.out rfl 1 rfl rfl ?_ (by omega) (by omega) (by omega) ?_; rotate_right; intro v' w6 hown hgrow)
          · go_roundw
            case rel =>
              have hbx : Below w2.heap.size w2 w6 := below_grown (hbw.alloc hsw _) hgrow HO.out (by simp; omega) (Nat.le_refl _)
              exact ⟨k + 1, by omega, by go_num, hown, hbx⟩
            case measure => simp [intOf] <;> omega
          · first | exact HPKX.out | (intro i hi; exact one0 hi (by rw [show k + i = k by omega]; exact HPKX.out))
      · obtain rfl : k = 128 := by omega
        have HO2 := HO.out.mono hs0
        have hfin := hbel.trans (hbw.mono hs0)
        go_wp2
        go_ret
        exact ⟨_, rfl, HO2, hfin⟩
  case neg =>
    go_wp2
    go_loopw [6, 7] (fun u i wr => ∃ k : Nat, k ≤ 128 ∧ i = .int .i64 (k : Int) ∧ Go.Bas.Own .u8 5 w.heap.size wr u k PK ∧ Below w.heap.size w wr) (fun _ i _ => 128 - (intOf i).toNat)
    case atStart => exact ⟨0, Nat.zero_le _, rfl, Go.Bas.Own.nil _ _ _ _ _, Below.refl _ _⟩
    case round =>
      obtain ⟨k, hk, rfl, ho, hbw⟩ := hrel
      have HO := Lib.hid ho
      have hsw := hbw.size
      have hs0 := hbel.size
      clear ho
      by_cases hlt : k < 128
      · by_cases hkn : k < n
        · obtain ⟨x, hx⟩ : ∃ x, x = key k := ⟨_, rfl⟩
          have x01 := HKB.out k hkn
          obtain ⟨b, o, rfl, hb, hcc⟩ := HKV.out.formAt (by omega)
          have e1 := (hbw.cell (p := ⟨b, o + k, none⟩) hb).trans (hcc k hkn)
          have hpk := HL.out.1 k hkn
          rw [← hx] at x01 e1 hpk
          obtain ⟨x0, x1⟩ := x01
          have HPKX := Lib.hid hpk
          clear hx hcc hpk
          go_wp2_with (at_builtin; refine append_new rfl _ _ 22 rfl w.heap.size 5 .u8 1 Try.underlying22 Try.info5 _ k PK _ _ rfl HO.out rfl 1 rfl rfl ?_ (by omega) (by omega) (by omega) ?_; rotate_right; intro v' w6 hown hgrow)
          · go_roundw
            case rel =>
              have hbx : Below w.heap.size w w6 := below_grown (hbw.alloc hsw _) hgrow HO.out (by simp; omega) (Nat.le_refl _)
              exact ⟨k + 1, by omega, by go_num, hown, hbx⟩
            case measure => simp [intOf] <;> omega
          · first | exact HPKX.out | (intro i hi; exact one0 hi (by rw [show k + i = k by omega]; exact HPKX.out))
        · have HPKX := Lib.hid (HL.out.2 k (by omega))
          go_wp2_with (at_builtin; refine append_new rfl _ _ 22 rfl w.heap.size 5 .u8 1 Try.underlying22 Try.info5 _ k PK _ _ rfl HO.out rfl 1 rfl rfl ?_ (by omega) (by omega) (by omega) ?_; rotate_right; intro v' w6 hown hgrow)
          · go_roundw
            case rel =>
              have hbx : Below w.heap.size w w6 := below_grown (hbw.alloc hsw _) hgrow HO.out (by simp; omega) (Nat.le_refl _)
              exact ⟨k + 1, by omega, by go_num, hown, hbx⟩
            case measure => simp [intOf] <;> omega
          · first | exact HPKX.out | (intro i hi; exact one0 hi (by rw [show k + i = k by omega]; exact HPKX.out))
      · obtain rfl : k = 128 := by omega
        have HO2 := HO.out
        have hfin := hbel.trans (hbw.mono hs0)
        go_wp2
        go_ret
        exact ⟨_, rfl, HO2, hfin⟩

end Go.Proofs.Ytgobodhcamgidaa
namespace Go.Proofs.Ytgobodhcamgidaa
open Go.RowKit Go.Bas
attribute [local go_sem ↓] Go.wp_at_zero Go.wp_at_succ

set_option maxRecDepth 100000 in
set_option maxHeartbeats 3200000 in
theorem rdTag_any (vk : Value) (nk : Nat) (key : Nat → Int) (vb : Value) (n : Nat) (F : Nat → Int) (w : World) (hv : Rd .u8 w vk nk key) (hk1 : nk ≤ 1000000) (hk : ∀ i, i < nk → 0 ≤ key i ∧ key i < 256)
    (hb : Rd .u8 w vb n F) (hn2 : n ≤ 900000) (hF : ∀ i, i < n → 0 ≤ F i ∧ F i < 256) :
    Calls Try.prog 28 #[vk, vb] w fun e w' => e = .returned (.agg (arr .u8 64 (tagB nk key n F))) ∧ Below w.heap.size w w' := by
  obtain ⟨K1, hK1⟩ : ∃ K1, K1 = padK nk key 54 := ⟨_, rfl⟩
  obtain ⟨K2, hK2⟩ : ∃ K2, K2 = padK nk key 92 := ⟨_, rfl⟩
  have HP1 := Lib.hid (fun w h => rdPad_any vk nk key 54 w h hk1 hk (by decide))
  have HP2 := Lib.hid (fun w h => rdPad_any vk nk key 92 w h hk1 hk (by decide))
  have hb1 : ∀ i, i < 128 → 0 ≤ K1 i ∧ K1 i < 256 := by rw [hK1]; exact fun i _ => padK_bound _ _ _ i
  have hb2 : ∀ i, i < 128 → 0 ≤ K2 i ∧ K2 i < 256 := by rw [hK2]; exact fun i _ => padK_bound _ _ _ i
  obtain ⟨C1, hC1⟩ : ∃ C1, C1 = catF 128 K1 F := ⟨_, rfl⟩
  obtain ⟨S1, hS1⟩ : ∃ S1, S1 = sumB (128 + n) C1 := ⟨_, rfl⟩
  have hsb : ∀ i, i < 64 → 0 ≤ S1 i ∧ S1 i < 256 := by rw [hS1]; exact fun i _ => sumB_bound _ _ i
  obtain ⟨C2, hC2⟩ : ∃ C2, C2 = catF 128 K2 S1 := ⟨_, rfl⟩
  obtain ⟨TG, hTG⟩ : ∃ TG, TG = sumB (128 + 64) C2 := ⟨_, rfl⟩
  have HS1 := Lib.hid (fun v w h => rSum_any v (128 + n) C1 w h (by omega) (by rw [hC1]; exact catF_bound hb1 hF))
  have HS2 := Lib.hid (fun v w h => rSum_any v (128 + 64) C2 w h (by decide) (by rw [hC2]; exact catF_bound hb2 hsb))
  have HLL := Lib.hid (fun w => rList_any S1 hsb w)
  have e1 : tagB nk key n F = TG := by rw [hTG, hC2, hS1, hC1, hK1, hK2]; rfl
  have HC1 : Hid ((∀ i, i < 128 → K1 i = C1 i) ∧ ∀ i, i < n → C1 (128 + i) = F i) := by rw [hC1]; exact ⟨fun i hi => (catF_lo hi).symm, fun i _ => catF_hi⟩
  have HC2 : Hid ((∀ i, i < 128 → K2 i = C2 i) ∧ ∀ i, i < 64 → C2 (128 + i) = S1 i) := by rw [hC2]; exact ⟨fun i hi => (catF_lo hi).symm, fun i _ => catF_hi⟩
  rw [e1]
  rw [← hS1] at HS1
  rw [← hTG] at HS2
  rw [← hK1] at HP1
  rw [← hK2] at HP2
  have HV := Lib.hid hv
  have HB := Lib.hid hb
  obtain ⟨va, vc, rfl, v1, v2, _, _⟩ := hv
  obtain ⟨ba, bc, rfl, b1, b2, _, _⟩ := hb
  clear hk hF hS1 hTG e1 hK1 hK2 hC1 hC2 hsb hb1 hb2
  go_enter Try.func28, Try.ntmps28
  go_upto_region 1 with (fail)
  refine wp_world (fun w1 => Arr .u8 w1 w.heap.size 64 (fun _ => 0) ∧ Below w.heap.size w w1 ∧ w1.heap.size = w.heap.size + 1) ⟨Arr.newAt rfl (by rfl), (Below.refl _ _).alloc (Nat.le_refl _) _, by simp⟩ ?_
  rintro w1 ⟨hZ, hb1, hs1⟩
  have HV1 := Lib.hid (HV.out.below hb1)
  have HB1 := Lib.hid (HB.out.below hb1)
  clear HV HB
  go_wp2_with fail
  refine (HP1.out _ HV1.out).mono ?_
  rintro e w2 ⟨p1, rfl, ho2, hb2⟩
  have HO2 := Lib.hid (ho2.congr HC1.out.1)
  have HB2 := Lib.hid (HB1.out.below hb2)
  have hs12 := hb2.size
  obtain ⟨g1, c1, rfl, _⟩ := HO2.out.form (by decide)
  clear ho2 HB1
  go_wp2_with (at_builtin; refine append_rd rfl _ _ 22 rfl w1.heap.size 5 .u8 1 Try.underlying22 Try.info5 _ 128 C1 HO2.out rfl _ n F HB2.out rfl HC1.out.2 (by omega) (by omega) hs12 ?_; intro v3 w3 hown3 hgr3)
  have hbl3 := below_grown hb2 hgr3 HO2.out hs12 (Nat.le_refl _)
  have hZ3 := hZ.kept hbl3
  have hbel3 := hb1.trans (hbl3.mono hb1.size)
  have HV3 := Lib.hid (HV1.out.below hbl3)
  have HR3 := Lib.hid hown3.rd
  obtain ⟨g3, c3, rfl, _⟩ := hown3.form (by omega)
  clear hZ hb1 HV1 hbl3 hown3 hgr3 HO2 HB2 hb2
  refine (HP2.out _ HV3.out).mono ?_
  rintro e w4 ⟨p2, rfl, ho4, hb4⟩
  have HO4 := Lib.hid (ho4.congr HC2.out.1)
  have HR4 := Lib.hid (HR3.out.below hb4)
  have hs34 := hb4.size
  obtain ⟨g4, c4, rfl, _⟩ := HO4.out.form (by decide)
  clear ho4 HR3
  go_wp2_with fail
  refine (HS1.out _ _ HR4.out).mono ?_
  rintro e w5 ⟨rfl, hb5⟩
  go_wp2_with fail
  refine (HLL.out _).mono ?_
  rintro e w6 ⟨v6, rfl, ho6, hb6⟩
  have hb46 := hb5.trans (hb6.mono hb5.size)
  have HO6 := Lib.hid (HO4.out.below hb46)
  have hb36 := hb4.trans (hb46.mono hs34)
  have hs36 := hb36.size
  have HR6 := Lib.hid ho6.rd
  obtain ⟨a6, c6, rfl, q1, q2, _, _⟩ := ho6.rd
  clear HO4 HR4 hb4 hb5 hb6 hb46 ho6
  go_wp2_with (at_builtin; refine append_rd rfl _ _ 22 rfl w3.heap.size 5 .u8 1 Try.underlying22 Try.info5 _ 128 C2 HO6.out rfl _ 64 S1 HR6.out rfl HC2.out.2 (by omega) (by omega) hs36 ?_; intro v7 w7 hown7 hgr7)
  have hbl7 := below_grown hb36 hgr7 HO6.out hs36 (Nat.le_refl _)
  have hZ7 := hZ3.kept hbl7
  have hbel7 := hbel3.trans (hbl7.mono hbel3.size)
  have HR7 := Lib.hid hown7.rd
  obtain ⟨g7, c7, rfl, _⟩ := hown7.form (by decide)
  clear hbl7 hZ3 hbel3 hown7 hgr7 HO6 HR6 hb36
  refine (HS2.out _ _ HR7.out).mono ?_
  rintro e w8 ⟨rfl, hb8⟩
  have hZ8 := hZ7.kept hb8
  have hbel8 := hbel7.trans (hb8.mono hbel7.size)
  clear hZ7 hb8 hbel7
  go_wp2_with (refine store_arr rfl 24 _ _ rfl .u8 w.heap.size 64 (fun _ => 0) TG Try.size24 rfl rfl hZ8 ?_)
  exact bodyPost_ret (results_arr rfl _ _ .u8 w.heap.size 64 _ 5 rfl (hZ8.setRow 64 TG) Try.underlying24 Try.size24) rfl ⟨rfl, below_setRow' hbel8 (Nat.le_refl _) _⟩
end Go.Proofs.Ytgobodhcamgidaa
namespace Go.Proofs.Ytgobodhcamgidaa
open Go.RowKit Go.Bas
attribute [local go_sem ↓] Go.wp_at_zero Go.wp_at_succ

set_option maxRecDepth 100000 in
set_option maxHeartbeats 6400000 in
theorem rdKey_any (vf : Value) (nf : Nat) (from_ : Nat → Int) (s : ByteArray) (vc : Value) (m : Nat) (lens : Nat → Nat) (g : Nat → Nat → Int) (w : World) (hf : Rd .u8 w vf nf from_) (hf0 : 0 < nf) (hf1 : nf ≤ 1000000) (hfb : ∀ i, i < nf → 0 ≤ from_ i ∧ from_ i < 256)
    (hs : s.size ≤ 64) (hc : Txt w vc m lens g) (hm : m ≤ 16) (hl : ∀ j, j < m → lens j ≤ 4000) (hg : ∀ j, j < m → ∀ i, i < lens j → 0 ≤ g j i ∧ g j i < 256) :
    Calls Try.prog 31 #[vf, .string s, vc] w fun e w' => e = .returned (.tuple #[.agg (arr .u8 32 (tagB nf from_ (infN s.size lens m) (infF s.size (strB s) lens g m))), .int .i64 0]) ∧ Below w.heap.size w w' := by
  obtain ⟨NN, hNN⟩ : ∃ NN, NN = infN s.size lens := ⟨_, rfl⟩
  obtain ⟨FF, hFF⟩ : ∃ FF, FF = infF s.size (strB s) lens g := ⟨_, rfl⟩
  have HNK : Hid (∀ k, k ≤ m → NN k ≤ 900000) := by
    rw [hNN]; intro k hk
    have h1 := infN_le (L := s.size) hl k hk
    have h2 : k * (4 + 4000) ≤ 16 * (4 + 4000) := Nat.mul_le_mul_right _ (by omega)
    omega
  have HFB : Hid (∀ i, i < NN m → 0 ≤ FF m i ∧ FF m i < 256) := by rw [hNN, hFF]; exact infF_bound (by omega) (fun i _ => strB_bound s i) hg m (Nat.le_refl _)
  have HN0 : Hid (NN 0 = 1 + s.size) := by rw [hNN]; exact rfl
  have HNS : Hid (∀ k, NN (k + 1) = NN k + 4 + lens k) := by rw [hNN]; exact fun k => by rw [infN]; omega
  have HF0 : Hid (FF 0 0 = (s.size : Int) ∧ ∀ i, FF 0 (1 + i) = strB s i) := by rw [hFF]; exact ⟨catF_lo (by decide), fun i => catF_hi⟩
  have HFS : Hid (∀ k, (∀ i, i < NN k → FF k i = FF (k + 1) i) ∧ (∀ i, i < 4 → FF (k + 1) (NN k + i) = put4 (lens k) i) ∧ ∀ i, i < lens k → FF (k + 1) (NN k + 4 + i) = g k i) := by
    rw [hNN, hFF]
    intro k
    refine ⟨fun i hi => (catF_lo hi).symm, fun i hi => ?_, fun i hi => ?_⟩
    · rw [infF, catF_hi, catF_lo hi]
    · rw [infF, Nat.add_assoc, catF_hi, catF_hi]
  obtain ⟨TG, hTG⟩ : ∃ TG, TG = tagB nf from_ (NN m) (FF m) := ⟨_, rfl⟩
  have HTAG : Hid (∀ vp w, Rd .u8 w vf nf from_ → Rd .u8 w vp (NN m) (FF m) → Calls Try.prog 28 #[vf, vp] w fun e w' => e = .returned (.agg (arr .u8 64 TG)) ∧ Below w.heap.size w w') := by
    rw [hTG]; exact fun vp w h1 h2 => rdTag_any vf nf from_ vp (NN m) (FF m) w h1 hf1 hfb h2 (HNK.out m (Nat.le_refl _)) HFB.out
  have e1 : tagB nf from_ (infN s.size lens m) (infF s.size (strB s) lens g m) = TG := by rw [hTG, hNN, hFF]
  rw [e1]
  obtain ⟨L, hL⟩ : ∃ L, L = s.size := ⟨_, rfl⟩
  have HSL : Hid (s.size = L) := hL.symm
  have hL64 : L ≤ 64 := by omega
  have HSTR : Hid (∀ i (h : i < s.size), ((s[i]'h).toNat : Int) = FF 0 (1 + i)) := by
    intro i h
    rw [HF0.out.2 i]
    unfold strB
    rw [List.getD_eq_getElem?_getD, List.getElem?_eq_getElem (by simpa using h)]
    rfl
  have HLL := Lib.hid hl
  have HFR := Lib.hid hf
  obtain ⟨fa, fc, rfl, f1, f2, _, _⟩ := hf
  obtain ⟨ca, cc, rfl, c1, c2, c3⟩ := hc
  have HC3 := Lib.hid c3
  have hlen : s.size ≤ 64 := hs
  clear hfb hg hl hNN hFF hTG e1 hL c3 hs
  have hnf : ((nf : Int) == 0) = false := by simp; omega
  go_enter Try.func31, Try.ntmps31
  go_upto_region 2 with (fail)
  refine wp_world (fun w1 => Arr .u8 w1 w.heap.size 32 (fun _ => 0) ∧ Arr .u8 w1 (w.heap.size + 1) 32 (fun _ => 0) ∧ Below w.heap.size w w1 ∧ w1.heap.size = w.heap.size + 2)
    ⟨Arr.alloc (Arr.newAt rfl (by rfl)) _, Arr.newAt (by simp) (by rfl), ((Below.refl _ _).alloc (Nat.le_refl _) _).alloc (by simp) _, by simp⟩ ?_
  rintro w1 ⟨hZ, hO, hb1, hs1⟩
  have HFR1 := Lib.hid (HFR.out.below hb1)
  clear HFR
  go_upto_region 4 with (fail)
  refine region_flow (n := 82) (by kernel_rfl) (by kernel_rfl) (by kernel_rfl) rfl
    (fun ii vv _ => (match ii with | 0 => vv = .string s | 1 => vv = .int .i64 ((s.size : Int)) | 2 | 3 | 6 | 7 => vv = .bool false | 4 => vv = .slice ca m cc | 5 => vv = .int .i64 ((m : Int)) | _ => True))
    (fun w w' => Below w.heap.size w w') (fun _ _ h => h) (fun _ _ _ _ h _ => h) ?_ ?_
  · refine Each.all ?_
    refine ⟨?_, ?_, ?_, ?_, ?_, ?_, ?_, ?_, trivial⟩
    · intro a w2 hB hF hd
      rw [if_pos (wanted_none rfl)]
      exact flow_move _ (.inl rfl) (by simp) (hF.same 1 rfl)
    · intro a w2 hB hF hd
      rw [if_pos (wanted_none rfl)]
      exact flow_val (fun h => by cases h) (run_len_str rfl (hd 0 _ rfl (waits_spec rfl)) Try.underlying9) rfl
    · intro a w2 hB hF hd
      rw [if_pos (wanted_none rfl)]
      exact flow_val (fun h => by cases h) (Go.Bas.run_gtr rfl (hd 1 _ rfl (waits_spec rfl)) rfl) (congrArg Value.bool (decide_eq_false (by omega)))
    · intro a w2 hB hF hd
      rw [if_pos (wanted_none rfl)]
      exact flow_move _ (.inl rfl) (by simp) (hd 2 _ rfl (waits_spec rfl))
    · intro a w2 hB hF hd
      refine flow_wanted (wanted_yes rfl rfl (hd 3 _ rfl (waits_spec rfl)) rfl) ?_
      exact flow_move _ (.inl rfl) (by simp) (hF.same 2 rfl)
    · intro a w2 hB hF hd
      refine flow_wanted (wanted_yes rfl rfl (hd 3 _ rfl (waits_spec rfl)) rfl) ?_
      exact flow_val (fun h => by cases h) (run_len_sl rfl (hd 4 _ rfl (waits_spec rfl)) Try.underlying52) rfl
    · intro a w2 hB hF hd
      refine flow_wanted (wanted_yes rfl rfl (hd 3 _ rfl (waits_spec rfl)) rfl) ?_
      exact flow_val (fun h => by cases h) (Go.Bas.run_gtr rfl (hd 5 _ rfl (waits_spec rfl)) rfl) (congrArg Value.bool (decide_eq_false (by omega)))
    · intro a w2 hB hF hd
      rw [if_pos (wanted_none rfl)]
      exact flow_val (fun h => by cases h) (run_pick rfl (hd 3 _ rfl (waits_spec rfl))) ((hd 6 _ rfl (waits_spec rfl)))
  · intro a wz hB hF hS
    have ha := puts_each rfl rfl hF [_, _, _, _, _, _, _, _] rfl ⟨hS 0 _ rfl, hS 1 _ rfl, hS 2 _ rfl, hS 3 _ rfl, hS 4 _ rfl, hS 5 _ rfl, hS 6 _ rfl, hS 7 _ rfl, trivial⟩
    simp only [puts, Act.put, List.setIfInBounds_toArray, List.set_cons_succ, List.set_cons_zero] at ha
    subst ha
    clear hS hF
    have hbz := hb1.trans (hB.mono hb1.size)
    have hZz := hZ.kept hB
    have hOz := hO.kept hB
    have HFRz := Lib.hid (HFR1.out.below hB)
    have hzs := hbz.size
    have hol := hO.lt
    clear hZ hO hs1 hB HFR1 hb1
    have U31 : IntKind.u8.wrap (s.size : Int) = (L : Int) := by rw [HSL.out, IntKind.wrap_u8]; omega
    go_upto_region 7 with (fail)
    have hO0 : Go.Bas.Own .u8 5 wz.heap.size (wz.alloc (.cells #[.int .u8 (L : Int)] 5)) (.slice (some ⟨wz.heap.size, 0, none⟩) 1 1) (1 + 0) (FF 0) :=
      Go.Bas.Own.new _ _ _ _ 1 _ (Nat.le_refl _) (by decide) rfl (fun i hi => one0 hi (by obtain rfl : i = 0 := by omega
                                                                                          rw [HF0.out.1, HSL.out]))
    have hB0 : Below wz.heap.size wz (wz.alloc (.cells #[.int .u8 (L : Int)] 5)) := (Below.refl _ _).alloc (Nat.le_refl _) _
    clear U31
    go_wp2
    go_loopw [9, 10] (fun v i wr => ∃ k : Nat, k ≤ s.size ∧ i = .int .i64 (k : Int) ∧ Go.Bas.Own .u8 5 wz.heap.size wr v (1 + k) (FF 0) ∧ Below wz.heap.size wz wr) (fun _ i _ => s.size - (intOf i).toNat)
    case atStart => exact ⟨0, Nat.zero_le _, rfl, hO0, hB0⟩
    case round =>
      clear hO0 hB0
      obtain ⟨k, hk, rfl, ho, hbel⟩ := hrel
      have hsr := hbel.size
      have HO := Lib.hid ho
      clear ho
      by_cases hlt : k < s.size
      · have HST := Lib.hid (HSTR.out k hlt)
        go_wp2_with (at_builtin; refine append_new rfl _ _ 22 rfl wz.heap.size 5 .u8 1 Try.underlying22 Try.info5 _ (1 + k) (FF 0) _ _ rfl HO.out rfl 1 rfl rfl ?_ (by omega) (by omega) (by omega) ?_; rotate_right; intro v' w6 hown hgrow)
        · go_roundw
          case rel => exact ⟨k + 1, by omega, by go_num, hown, below_grown (hbel.alloc hsr _) hgrow HO.out (by simp; omega) (Nat.le_refl _)⟩
          case measure => simp [intOf] <;> omega
        · first | exact HST.out | (intro i hi; exact one0 hi (by rw [show 1 + k + i = 1 + k by omega]; exact HST.out))
      · obtain rfl : k = s.size := by omega
        have hO1 : Go.Bas.Own .u8 5 wz.heap.size wr u9 (NN 0) (FF 0) := by rw [HN0.out]; exact HO.out
        obtain ⟨wq, hwq⟩ : ∃ wq, wq = wr := ⟨_, rfl⟩
        subst hwq
        clear HO
        go_wp2
        go_loopw [9, 11] (fun v i wr => ∃ k : Nat, k ≤ m ∧ i = .int .i64 (k : Int) ∧ Go.Bas.Own .u8 5 wz.heap.size wr v (NN k) (FF k) ∧ Below wz.heap.size wz wr) (fun _ i _ => m - (intOf i).toNat)
        case atStart => exact ⟨0, Nat.zero_le _, rfl, hO1, hbel⟩
        case round =>
          clear hO1 hbel hsr
          obtain ⟨k, hk, rfl, ho, hbz'⟩ := hrel
          have hsr := hbz'.size
          have hbel := hbz.trans (hbz'.mono hzs)
          have hnk := HNK.out k hk
          have HO := Lib.hid (ho.congr (HFS.out k).1)
          have HOK := Lib.hid ho
          clear ho
          by_cases hlt : k < m
          · obtain ⟨tb, to, rfl, tlt, tcell⟩ := HC3.out (by omega)
            obtain ⟨u, hu, hru⟩ := tcell k hlt
            have ez := (hbz.cell (p := ⟨tb, to + k, none⟩) tlt).trans hu
            have tz : tb < wz.heap.size := Nat.lt_of_lt_of_le tlt hzs
            have e1 := (hbz'.cell (p := ⟨tb, to + k, none⟩) tz).trans ez
            have HRU := Lib.hid (hru.below hbz)
            obtain ⟨ua, uc, rfl, u1, u2, _, _⟩ := hru
            have hlk := HLL.out k hlt
            have hnk2 := HNK.out (k + 1) (by omega)
            rw [HNS.out k] at hnk2
            obtain ⟨n, hn⟩ : ∃ n, n = lens k := ⟨_, rfl⟩
            have HFSA : Hid (∀ i, i < 4 → FF (k + 1) (NN k + i) = put4 n i) := by rw [hn]; exact (HFS.out k).2.1
            have HFSB : Hid (∀ i, i < n → FF (k + 1) (NN k + 4 + i) = g k i) := by rw [hn]; exact (HFS.out k).2.2
            have HNSK : Hid (NN k + 4 + n = NN (k + 1)) := by rw [hn]; exact (HNS.out k).symm
            rw [← hn] at HRU ez e1 u1 hlk hnk2
            have HEZ := Lib.hid ez
            have h5 : (n : Int) / 2 ^ (8 * 4) = 0 := Int.ediv_eq_zero_of_lt (by omega) (by omega)
            have HPUT := Lib.hid (fun w => Put_ok (n : Int) 4 w (by decide) (by decide) (by omega) (by omega) h5)
            obtain ⟨nk, hnk'⟩ : ∃ nk, nk = NN k := ⟨_, rfl⟩
            rw [← hnk'] at HO hnk hnk2 HFSA HFSB HNSK
            clear tcell hu hn h5 hnk' ez
            go_wp2_with fail
            refine (HPUT.out _).mono ?_
            rintro e w5 ⟨nv, rfl, hon, hb5⟩
            have hbz5 := hbz'.trans (hb5.mono hsr)
            have HO5 := Lib.hid (HO.out.below hb5)
            have HNV := Lib.hid hon.rd
            have hs5 := hbz5.size
            obtain ⟨ng, nc, rfl, hng, _⟩ := hon.form (by decide)
            have e5 := (hbz5.cell (p := ⟨tb, to + k, none⟩) tz).trans HEZ.out
            clear hon HPUT e1 HO hbz' hb5
            go_wp2_with (first
              | (at_builtin; refine append_rd rfl _ _ 22 rfl wz.heap.size 5 .u8 1 Try.underlying22 Try.info5 _ nk (FF (k + 1)) HO5.out rfl _ 4 _ HNV.out rfl HFSA.out (by omega) (by omega) hs5 ?_; intro v6 w6 hown6 hgr6; have hbz6 := below_grown hbz5 hgr6 HO5.out hs5 (Nat.le_refl _); have e6 := (hbz6.cell (p := ⟨tb, to + k, none⟩) tz).trans HEZ.out; have hru6 := HRU.out.below hbz6; have hs6 := hbz6.size)
              | (at_builtin; refine append_rd rfl _ _ 22 rfl wz.heap.size 5 .u8 1 Try.underlying22 Try.info5 v6 (nk + 4) (FF (k + 1)) hown6 rfl _ n _ hru6 rfl HFSB.out (by omega) (by omega) hs6 ?_; intro v7 w7 hown7 hgr7))
            have hbz7 := below_grown hbz6 hgr7 hown6 hs6 (Nat.le_refl _)
            rw [HNSK.out] at hown7
            go_roundw
            case rel => first | exact ⟨k + 1, by omega, by go_num, hown7, hbz7⟩ | ((repeat apply Exists.intro); exact ⟨⟨k + 1, by omega, by go_num, hown7, hbz7⟩, rfl⟩)
            case measure => simp [intOf] <;> omega
          · obtain rfl : k = m := by omega
            have hZr := hZz.below hbz' hZz.lt
            have hOr := hOz.below hbz' hOz.lt
            have HFRr := Lib.hid (HFRz.out.below hbz')
            have HRB := Lib.hid HOK.out.rd
            obtain ⟨ba, bc, rfl, _, _, _, _⟩ := HOK.out.rd
            clear hbz' hsr HO HOK
            go_wp2_with fail
            refine (HTAG.out _ _ HFRr.out HRB.out).mono ?_
            rintro e w5 ⟨rfl, hb5⟩
            have hbel5 := hbel.trans (hb5.mono hbel.size)
            have hZ5 := hZr.kept hb5
            have hO5 := hOr.kept hb5
            have hzl := hZ5.lt
            have hol5 := hO5.lt
            clear hbel hb5 hZr hOr HRB HFRr
            go_upto_region 18 with (refine store_arr rfl 24 _ _ rfl .u8 w5.heap.size 64 (fun _ => 0) TG Try.size24 rfl rfl (Arr.newAt rfl (by rfl)) ?_)
            refine wp_world (fun w6 => Arr .u8 w6 w5.heap.size 64 TG ∧ Arr .u8 w6 w.heap.size 32 (fun _ => 0) ∧ Arr .u8 w6 (w.heap.size + 1) 32 (fun _ => 0) ∧ Below w.heap.size w w6)
              ⟨(Arr.newAt rfl (by rfl) : Arr .u8 _ _ 64 (fun _ => 0)).setRow _ _, Arr.setRowOther (Arr.alloc hZ5 _) _ (by omega) _, Arr.setRowOther (Arr.alloc hO5 _) _ (by omega) _, below_setRow' (hbel5.alloc hbel5.size _) hbel5.size _⟩ ?_
            rintro w6 ⟨hA6, hZ6, hO6, hb6⟩
            obtain ⟨q, hq⟩ : ∃ q, q = w5.heap.size := ⟨_, rfl⟩
            rw [← hq] at hA6 hzl hol5 ⊢
            clear hq hZ5 hO5 hbel5
            simp only [Act.put]
            obtain ⟨bo, hbo⟩ : ∃ bo, bo = w.heap.size + 1 := ⟨_, rfl⟩
            rw [← hbo] at hO6 hol5 ⊢
            have hbo1 : w.heap.size ≤ bo := by omega
            have hbo2 : w.heap.size ≠ bo := by omega
            have hbo3 : q ≠ bo := by omega
            clear hbo
            go_wp2
            go_loopw [15] (fun u wr => ∃ i : Nat, i ≤ 32 ∧ u = .int .i64 (i : Int) ∧ Arr .u8 wr q 64 TG ∧ Arr .u8 wr bo 32 (upto i TG (fun _ => 0)) ∧ Arr .u8 wr w.heap.size 32 (fun _ => 0) ∧ Below w.heap.size w wr) (fun u _ => 32 - (intOf u).toNat)
            case atStart => exact ⟨0, Nat.zero_le _, rfl, hA6, by rw [upto_zero]; exact hO6, hZ6, hb6⟩
            case round =>
              clear hA6 hO6 hZ6 hb6
              obtain ⟨i, hi, rfl, hA, hO, hZ, hbel⟩ := hrel
              by_cases hlt : i < 32
              · have e1 := hA.cell i (by omega)
                have e2 := hO.cell i hlt
                have f2 := hO.free i
                have HA := Lib.hid hA
                have HO := Lib.hid hO
                have HZ := Lib.hid hZ
                clear hA hO hZ
                go_wp2
                go_roundw
                case rel => exact ⟨i + 1, by omega, by go_num, HA.out.other (by simpa using hbo3) _, by rw [← upto_step (j := i) (g := TG) (f := fun _ => 0) rfl]; exact HO.out.set i _, HZ.out.other (by simpa using hbo2) _, hbel.setCell hbo1 _⟩
                case measure => simp [intOf] <;> omega
              · obtain rfl : i = 32 := by omega
                have hO2 := hO.congr (g := TG) (upto_full TG _ (Nat.le_refl _))
                clear hA hO
                go_wp2_with (first
                  | (refine load_arr rfl 26 _ rfl .u8 bo 32 TG 5 Try.underlying26 Try.size26 rfl hO2 ?_)
                  | (refine store_arr rfl 26 _ _ rfl .u8 w.heap.size 32 (fun _ => 0) TG Try.size26 rfl rfl hZ ?_))
                exact bodyPost_ret (results_arr2 rfl _ _ .u8 w.heap.size 32 _ 5 rfl (hZ.setRow 32 TG) Try.underlying26 Try.size26) rfl ⟨rfl, below_setRow' hbel (Nat.le_refl _) _⟩
end Go.Proofs.Ytgobodhcamgidaa
