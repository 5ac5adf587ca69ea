/-
  bastilleref03.List, bastilleref08.Bytes, bastilleref12.pad, bastilleref12.Tag: what each answers. Conditions: named in each theorem.
-/
import Derived.Test.YtgobodhcamgidaaDr1
import Derived.Test.YtgobodhcamgidaaSh9
import Derived.Test.YtgobodhcamgidaaSh12
set_option linter.unusedVariables false
set_option linter.unusedSimpArgs false
namespace Go.Proofs.Ytgobodhcamgidaa
open Go.RowKit Go.Bas
attribute [local go_sem ↓] Go.wp_at_zero Go.wp_at_succ

set_option maxRecDepth 100000 in
set_option maxHeartbeats 1600000 in
theorem rList_any (f : Nat → Int) (hf : ∀ i, i < 64 → 0 ≤ f i ∧ f i < 256) (w : World) :
    Calls Try.prog 57 #[.agg (arr .u8 64 f)] w fun e w' => ∃ v, e = .returned v ∧ Go.Bas.Own .u8 5 (w.heap.size + 1) w' v 64 f ∧ Below w.heap.size w w' := by
  have HF := Lib.hid hf
  clear hf
  go_enter Try.func57, Try.ntmps57
  have hA1 : Arr .u8 (w.alloc (.cells (arr .u8 64 f) 24)) w.heap.size 64 f := Arr.newAt rfl rfl
  have hb1 : Below w.heap.size w (w.alloc (.cells (arr .u8 64 f) 24)) := (Below.refl _ _).alloc (Nat.le_refl _) _
  go_wp2
  go_loopw [3, 4] (fun v i wr => ∃ k : Nat, k ≤ 64 ∧ i = .int .i64 (k : Int) ∧ Go.Bas.Own .u8 5 (w.heap.size + 1) wr v k f ∧ Arr .u8 wr w.heap.size 64 f ∧ Below w.heap.size w wr ∧ w.heap.size + 1 ≤ wr.heap.size) (fun _ i _ => 64 - (intOf i).toNat)
  case atStart => exact ⟨0, Nat.zero_le _, rfl, Go.Bas.Own.nil _ _ _ _ _, hA1, hb1, by simp⟩
  case round =>
    clear hA1 hb1
    obtain ⟨k, hk, rfl, ho, hA, hbel, hsz⟩ := hrel
    have HO := Lib.hid ho
    have HA := Lib.hid hA
    clear ho hA
    by_cases hlt : k < 64
    · obtain ⟨x, hx⟩ : ∃ x, x = f k := ⟨_, rfl⟩
      have x01 := HF.out k hlt
      have e1 := HA.out.cell k hlt
      rw [← hx] at x01 e1
      obtain ⟨x0, x1⟩ := x01
      have HX := Lib.hid hx
      have hne := HO.out.far (Nat.lt_succ_self w.heap.size)
      clear hx
      go_wp2_with (at_builtin; refine append_new rfl _ _ 22 rfl (w.heap.size + 1) 5 .u8 1 Try.underlying22 Try.info5 _ k f _ _ rfl HO.out rfl 1 rfl rfl ?_ (by omega) (by omega) (by omega) ?_; rotate_right; intro v' w6 hown hgrow)
      · go_roundw
        case rel => exact ⟨k + 1, by omega, by go_num, hown, (Arr.alloc HA.out _).grown hgrow hne, below_grown (hbel.alloc (by omega) _) hgrow HO.out (by simp; omega) (by omega), by have := hgrow.size; simp at this; omega⟩
        case measure => simp [intOf] <;> omega
      · first | exact HX.out | (intro i hi; exact one0 hi (by rw [show k + i = k by omega]; exact HX.out))
    · obtain rfl : k = 64 := by omega
      have HO2 := HO.out
      go_wp2
      go_ret
      exact ⟨_, rfl, HO2, hbel⟩

set_option maxRecDepth 100000 in
set_option maxHeartbeats 1600000 in
theorem rBytes32_any (f : Nat → Int) (hf : ∀ i, i < 32 → 0 ≤ f i ∧ f i < 256) (w : World) :
    Calls Try.prog 63 #[.agg (arr .u8 32 f)] w fun e w' => ∃ v, e = .returned v ∧ Go.Bas.Own .u8 5 (w.heap.size + 1) w' v 32 f ∧ Below w.heap.size w w' := by
  have HF := Lib.hid hf
  clear hf
  go_enter Try.func63, Try.ntmps63
  have hA1 : Arr .u8 (w.alloc (.cells (arr .u8 32 f) 26)) w.heap.size 32 f := Arr.newAt rfl rfl
  have hb1 : Below w.heap.size w (w.alloc (.cells (arr .u8 32 f) 26)) := (Below.refl _ _).alloc (Nat.le_refl _) _
  go_wp2
  go_loopw [3, 4] (fun v i wr => ∃ k : Nat, k ≤ 32 ∧ i = .int .i64 (k : Int) ∧ Go.Bas.Own .u8 5 (w.heap.size + 1) wr v k f ∧ Arr .u8 wr w.heap.size 32 f ∧ Below w.heap.size w wr ∧ w.heap.size + 1 ≤ wr.heap.size) (fun _ i _ => 32 - (intOf i).toNat)
  case atStart => exact ⟨0, Nat.zero_le _, rfl, Go.Bas.Own.nil _ _ _ _ _, hA1, hb1, by simp⟩
  case round =>
    clear hA1 hb1
    obtain ⟨k, hk, rfl, ho, hA, hbel, hsz⟩ := hrel
    have HO := Lib.hid ho
    have HA := Lib.hid hA
    clear ho hA
    by_cases hlt : k < 32
    · obtain ⟨x, hx⟩ : ∃ x, x = f k := ⟨_, rfl⟩
      have x01 := HF.out k hlt
      have e1 := HA.out.cell k hlt
      rw [← hx] at x01 e1
      obtain ⟨x0, x1⟩ := x01
      have HX := Lib.hid hx
      have hne := HO.out.far (Nat.lt_succ_self w.heap.size)
      clear hx
      go_wp2_with (at_builtin; refine append_new rfl _ _ 22 rfl (w.heap.size + 1) 5 .u8 1 Try.underlying22 Try.info5 _ k f _ _ rfl HO.out rfl 1 rfl rfl ?_ (by omega) (by omega) (by omega) ?_; rotate_right; intro v' w6 hown hgrow)
      · go_roundw
        case rel => exact ⟨k + 1, by omega, by go_num, hown, (Arr.alloc HA.out _).grown hgrow hne, below_grown (hbel.alloc (by omega) _) hgrow HO.out (by simp; omega) (by omega), by have := hgrow.size; simp at this; omega⟩
        case measure => simp [intOf] <;> omega
      · first | exact HX.out | (intro i hi; exact one0 hi (by rw [show k + i = k by omega]; exact HX.out))
    · obtain rfl : k = 32 := by omega
      have HO2 := HO.out
      go_wp2
      go_ret
      exact ⟨_, rfl, HO2, hbel⟩

set_option maxRecDepth 100000 in
set_option maxHeartbeats 3200000 in
theorem rdPad_any (v : Value) (n : Nat) (key : Nat → Int) (c : Int) (w : World) (hv : Rd .u8 w v n key) (hn : n ≤ 1000000) (hk : ∀ i, i < n → 0 ≤ key i ∧ key i < 256) (hc : 0 ≤ c ∧ c < 256) :
    Calls Try.prog 56 #[v, .int .u8 c] w fun e w' => ∃ u, e = .returned u ∧ Go.Bas.Own .u8 5 w.heap.size w' u 128 (padK n key c) ∧ Below w.heap.size w w' := by
  obtain ⟨PK, hPK⟩ : ∃ PK, PK = padK n key c := ⟨_, rfl⟩
  have HS := Lib.hid (fun w h => rSum_any v n key w h hn hk)
  have HLL := Lib.hid (fun w => rList_any (sumB n key) (fun i _ => sumB_bound n key i) w)
  have HC0 := Lib.hid (xor8_0 hc)
  have HA1 : Hid (128 < n → (∀ i, i < 64 → bits .xor .u8 (sumB n key i) c = PK i) ∧ ∀ i, 64 ≤ i → c = PK i) := by
    rw [hPK]; intro h
    refine ⟨fun i hi => ?_, fun i hi => ?_⟩
    · unfold padK keyK; rw [if_pos h, if_pos hi]
    · unfold padK keyK; rw [if_pos h, if_neg (by omega)]; exact HC0.out.symm
  have HA2 : Hid (¬ 128 < n → (∀ i, i < n → bits .xor .u8 (key i) c = PK i) ∧ ∀ i, n ≤ i → c = PK i) := by
    rw [hPK]; intro h
    refine ⟨fun i hi => ?_, fun i hi => ?_⟩
    · unfold padK keyK; rw [if_neg h, if_pos hi]
    · unfold padK keyK; rw [if_neg h, if_neg (by omega)]; exact HC0.out.symm
  have HSBB : Hid (∀ i, 0 ≤ sumB n key i ∧ sumB n key i < 256) := sumB_bound n key
  rw [← hPK]
  have HV := Lib.hid hv
  have HK := Lib.hid hk
  obtain ⟨va, vc, rfl, v1, v2, _, _⟩ := hv
  obtain ⟨c0, c1⟩ := hc
  clear hk hPK
  by_cases hlong : 128 < n
  case' pos =>
    obtain ⟨SB, hSB⟩ : ∃ SB, SB = sumB n key := ⟨_, rfl⟩
    rw [← hSB] at HS HLL HA1 HSBB
    clear hSB
    have HL := Lib.hid (HA1.out hlong)
    go_enter Try.func56, Try.ntmps56
    go_wp2_with fail
    refine (HS.out _ HV.out).mono ?_
    rintro e w1 ⟨rfl, hb1⟩
    go_wp2_with fail
    refine (HLL.out _).mono ?_
    rintro e w2 ⟨kv, rfl, ho, hb2⟩
    have hbel := hb1.trans (hb2.mono hb1.size)
    have HKV := Lib.hid ho.rd
    have HKB : Hid (∀ i, i < 64 → 0 ≤ SB i ∧ SB i < 256) := fun i _ => HSBB.out i
    obtain ⟨ka, kc, rfl, k1, k2, _, _⟩ := ho.rd
    clear hb1 hb2 ho
  case' neg =>
    have hn128 : n ≤ 128 := by omega
    have HL := Lib.hid (HA2.out hlong)
    have HKV := HV
    have HKB := HK
    have hbel := Below.refl w.heap.size w
    obtain ⟨k1, k2⟩ : n ≤ vc ∧ vc ≤ 9223372036854775807 := ⟨v1, v2⟩
    go_enter Try.func56, Try.ntmps56
  case pos =>
    go_wp2
    go_loopw [6, 7] (fun u i wr => ∃ k : Nat, k ≤ 128 ∧ i = .int .i64 (k : Int) ∧ Go.Bas.Own .u8 5 w2.heap.size wr u k PK ∧ Below w2.heap.size w2 wr) (fun _ i _ => 128 - (intOf i).toNat)
    case atStart => exact ⟨0, Nat.zero_le _, rfl, Go.Bas.Own.nil _ _ _ _ _, Below.refl _ _⟩
    case round =>
      obtain ⟨k, hk, rfl, ho, hbw⟩ := hrel
      have HO := Lib.hid ho
      have hsw := hbw.size
      have hs0 := hbel.size
      clear ho
      by_cases hlt : k < 128
      · by_cases hkn : k < 64
        · obtain ⟨x, hx⟩ : ∃ x, x = SB k := ⟨_, rfl⟩
          have x01 := HKB.out k hkn
          obtain ⟨b, o, rfl, hb, hcc⟩ := HKV.out.formAt (by omega)
          have e1 := (hbw.cell (p := ⟨b, o + k, none⟩) hb).trans (hcc k hkn)
          have hpk := HL.out.1 k hkn
          rw [← hx] at x01 e1 hpk
          obtain ⟨x0, x1⟩ := x01
          have HPKX := Lib.hid hpk
          clear hx hcc hpk
          go_wp2_with (at_builtin; refine append_new rfl _ _ 22 rfl w2.heap.size 5 .u8 1 Try.underlying22 Try.info5 _ k PK _ _ rfl HO.out rfl 1 rfl rfl ?_ (by omega) (by omega) (by omega) ?_; rotate_right; intro v' w6 hown hgrow)
          · go_roundw
            case rel =>
              have hbx : Below w2.heap.size w2 w6 := below_grown (hbw.alloc hsw _) hgrow HO.out (by simp; omega) (Nat.le_refl _)
              exact ⟨k + 1, by omega, by go_num, hown, hbx⟩
            case measure => simp [intOf] <;> omega
          · first | exact HPKX.out | (intro i hi; exact one0 hi (by rw [show k + i = k by omega]; exact HPKX.out))
        · have HPKX := Lib.hid (HL.out.2 k (by omega))
          go_wp2_with (at_builtin; refine append_new rfl _ _ 22 rfl w2.heap.size 5 .u8 1 Try.underlying22 Try.info5 _ k PK _ _ rfl HO.out rfl 1 rfl rfl ?_ (by omega) (by omega) (by omega) ?_; rotate_right; intro v' w6 hown hgrow)
          · go_roundw
            case rel =>
              have hbx : Below w2.heap.size w2 w6 := below_grown (hbw.alloc hsw _) hgrow HO.out (by simp; omega) (Nat.le_refl _)
              exact ⟨k + 1, by omega, by go_num, hown, hbx⟩
            case measure => simp [intOf] <;> omega
          · first | exact HPKX.out | (intro i hi; exact one0 hi (by rw [show k + i = k by omega]; exact HPKX.out))
      · obtain rfl : k = 128 := by omega
        have HO2 := HO.out.mono hs0
        have hfin := hbel.trans (hbw.mono hs0)
        go_wp2
        go_ret
        exact ⟨_, rfl, HO2, hfin⟩
  case neg =>
    go_wp2
    go_loopw [6, 7] (fun u i wr => ∃ k : Nat, k ≤ 128 ∧ i = .int .i64 (k : Int) ∧ Go.Bas.Own .u8 5 w.heap.size wr u k PK ∧ Below w.heap.size w wr) (fun _ i _ => 128 - (intOf i).toNat)
    case atStart => exact ⟨0, Nat.zero_le _, rfl, Go.Bas.Own.nil _ _ _ _ _, Below.refl _ _⟩
    case round =>
      obtain ⟨k, hk, rfl, ho, hbw⟩ := hrel
      have HO := Lib.hid ho
      have hsw := hbw.size
      have hs0 := hbel.size
      clear ho
      by_cases hlt : k < 128
      · by_cases hkn : k < n
        · obtain ⟨x, hx⟩ : ∃ x, x = key k := ⟨_, rfl⟩
          have x01 := HKB.out k hkn
          obtain ⟨b, o, rfl, hb, hcc⟩ := HKV.out.formAt (by omega)
          have e1 := (hbw.cell (p := ⟨b, o + k, none⟩) hb).trans (hcc k hkn)
          have hpk := HL.out.1 k hkn
          rw [← hx] at x01 e1 hpk
          obtain ⟨x0, x1⟩ := x01
          have HPKX := Lib.hid hpk
          clear hx hcc hpk
          go_wp2_with (at_builtin; refine append_new rfl _ _ 22 rfl w.heap.size 5 .u8 1 Try.underlying22 Try.info5 _ k PK _ _ rfl HO.out rfl 1 rfl rfl ?_ (by omega) (by omega) (by omega) ?_; rotate_right; intro v' w6 hown hgrow)
          · go_roundw
            case rel =>
              have hbx : Below w.heap.size w w6 := below_grown (hbw.alloc hsw _) hgrow HO.out (by simp; omega) (Nat.le_refl _)
              exact ⟨k + 1, by omega, by go_num, hown, hbx⟩
            case measure => simp [intOf] <;> omega
          · first | exact HPKX.out | (intro i hi; exact one0 hi (by rw [show k + i = k by omega]; exact HPKX.out))
        · have HPKX := Lib.hid (HL.out.2 k (by omega))
          go_wp2_with (at_builtin; refine append_new rfl _ _ 22 rfl w.heap.size 5 .u8 1 Try.underlying22 Try.info5 _ k PK _ _ rfl HO.out rfl 1 rfl rfl ?_ (by omega) (by omega) (by omega) ?_; rotate_right; intro v' w6 hown hgrow)
          · go_roundw
            case rel =>
              have hbx : Below w.heap.size w w6 := below_grown (hbw.alloc hsw _) hgrow HO.out (by simp; omega) (Nat.le_refl _)
              exact ⟨k + 1, by omega, by go_num, hown, hbx⟩
            case measure => simp [intOf] <;> omega
          · first | exact HPKX.out | (intro i hi; exact one0 hi (by rw [show k + i = k by omega]; exact HPKX.out))
      · obtain rfl : k = 128 := by omega
        have HO2 := HO.out
        have hfin := hbel.trans (hbw.mono hs0)
        go_wp2
        go_ret
        exact ⟨_, rfl, HO2, hfin⟩

end Go.Proofs.Ytgobodhcamgidaa
