/-
  Part 11 of the texts that the proof of SignBack rests on, one after the other. Conditions: named in each theorem.
-/
import Derived.Test.YtdhejcaapdhhfaaPkSignBack1
import Derived.Test.YtdhejcaapdhhfaaPkSignBack8
import Derived.BigQuiet
import Derived.Deep.DrawnRows
import Derived.Deep.QuietTactic
import Derived.Deep.RegionHeld3
import Derived.Deep.WholeRow
import Derived.Laws.CopyOwn
import Derived.Lib.Hide
import Derived.Test.YtdhejcaapdhhfaaArr
import Derived.Test.YtdhejcaapdhhfaaKit
import Derived.Test.YtdhejcaapdhhfaaRows
import Derived.WalkKit
import Derived.WalkLawsBesides
import Derived.WalkSmall
import Derived.WalkSpells
set_option linter.unusedVariables false
set_option linter.unusedSimpArgs false
namespace Go.Proofs.Ytdhejcaapdhhfaa
open Go.RowKit Go.Bas
attribute [local go_sem ↓] Go.wp_at_zero Go.wp_at_succ

set_option maxRecDepth 100000 in
set_option maxHeartbeats 400000 in
theorem twice_any (X b : Int) (w : World) (hb : 0 ≤ b ∧ b ≤ 1) :
    Calls Try.prog 135 #[.agg (arr .u32 17 (dg 65536 X)), .int .u32 b] w fun e w' => e = .returned (.agg (arr .u32 17 (dg 65536 (2 * X + b)))) ∧ Below w.heap.size w w' := by
  obtain ⟨hb0, hb1⟩ := hb
  go_enter Try.func135, Try.ntmps135
  go_wp2_with (refine load_arr rfl 104 _ rfl .u32 w.heap.size 17 (dg 65536 X) 102 Try.underlying104 Try.size104 rfl ((Arr.new .u32 w _ 17 (dg 65536 X)).alloc _) ?_)
  go_loopw [1, 8] (fun x i wr => ∃ (k : Nat) (c : Int), k ≤ 17 ∧ c = car2 X b k ∧ 0 ≤ c ∧ c ≤ 1 ∧ x = .int .u32 c ∧ i = .int .i64 k ∧ Arr .u32 wr w.heap.size 17 (upto k (dg 65536 (2 * X + b)) (dg 65536 X)) ∧ Arr .u32 wr (w.heap.size + 1) 17 (fun _ => 0) ∧ Below w.heap.size w wr) (fun _ i _ => 17 - (intOf i).toNat)
  case atStart => exact ⟨0, b, Nat.zero_le _, (car2_zero X b).symm, hb0, hb1, rfl, rfl, by rw [upto_zero]; exact (Arr.new .u32 w _ 17 (dg 65536 X)).alloc _, Arr.newAt (by simp) rfl, ((Below.refl _ _).alloc (Nat.le_refl _) _).alloc (by simp) _⟩
  case round =>
    obtain ⟨k, c, hk, hc, hc0, hc1, rfl, rfl, hA, hZ, hbel⟩ := hrel
    have HC := Lib.hid hc
    clear hc
    by_cases hlt : k < 17
    · have e1 := hA.cell k hlt
      have f1 := hA.free k
      have HA := Lib.hid hA
      have HZ := Lib.hid hZ
      have hix := run_index_arr (f := dg 65536 X) Try.underlying104 Try.underlying102 Try.size102 k hlt
      obtain ⟨b0, b1⟩ := dg_bound (by decide : (0 : Int) < 65536) X k
      have hor := or_bit b0 (by omega) hc0 hc1
      have hand := and16_u32 (x := dg 65536 X k * 2 + c) (by omega) (by omega)
      have hst := car2_step X b k
      rw [← HC.out] at hst
      obtain ⟨s1, s2⟩ := hst
      have S1 := Lib.hid s1
      have S2 := Lib.hid s2
      clear hA hZ s1 s2
      go_wp2
      go_roundw
      case rel => exact ⟨k + 1, _, by omega, S2.out, by omega, by omega, rfl, by go_num, by rw [← upto_step S1.out.symm.symm]; exact HA.out.set k _, HZ.out.other (by simp) _, hbel.setCell (Nat.le_refl _) _⟩
      case measure => simp [intOf] <;> omega
    · obtain rfl : k = 17 := by omega
      go_wp2_with (first
        | (refine load_arr rfl 104 _ rfl .u32 w.heap.size 17 _ 102 Try.underlying104 Try.size104 rfl hA ?_)
        | (refine store_arr rfl 104 _ _ rfl .u32 (w.heap.size + 1) 17 (fun _ => 0) _ Try.size104 rfl rfl hZ ?_))
      refine bodyPost_ret (results_arr rfl _ _ .u32 (w.heap.size + 1) 17 _ 102 rfl (hZ.setRow _ _) Try.underlying104 Try.size104) rfl ⟨?_, below_setRow' hbel (by omega) _⟩
      rw [arr_congr (upto_full _ _ (Nat.le_refl _))]

set_option maxRecDepth 100000 in
set_option maxHeartbeats 400000 in
theorem less_any (X Y : Int) (w : World) (hX : 0 ≤ X ∧ X < 65536 ^ 17) (hY : 0 ≤ Y ∧ Y < 65536 ^ 17) :
    Calls Try.prog 92 #[.agg (arr .u32 17 (dg 65536 X)), .agg (arr .u32 17 (dg 65536 Y))] w fun e w' =>
      e = .returned (.tuple #[.agg (arr .u32 17 (dg 65536 (X - Y))), .bool (decide (Y ≤ X))]) ∧ Below w.heap.size w w' := by
  have HX := Lib.hid hX
  have HY := Lib.hid hY
  clear hX hY
  go_enter Try.func92, Try.ntmps92
  go_wp2
  go_loopw [6, 9] (fun x i wr => ∃ (k : Nat) (c : Int), k ≤ 17 ∧ c = bor2 X Y k ∧ 0 ≤ c ∧ c ≤ 1 ∧ x = .int .u32 c ∧ i = .int .i64 k ∧ Arr .u32 wr w.heap.size 17 (upto k (dg 65536 (X - Y)) (dg 65536 X)) ∧ Arr .u32 wr (w.heap.size + 1) 17 (dg 65536 Y) ∧ Arr .u32 wr (w.heap.size + 2) 17 (fun _ => 0) ∧ Below w.heap.size w wr) (fun _ i _ => 17 - (intOf i).toNat)
  case atStart => exact ⟨0, 0, Nat.zero_le _, (bor2_zero X Y).symm, by decide, by decide, rfl, rfl, by rw [upto_zero]; exact ((Arr.newAt rfl rfl).alloc _).alloc _, (Arr.newAt (by simp) rfl).alloc _, Arr.newAt (by simp) rfl, (((Below.refl _ _).alloc (Nat.le_refl _) _).alloc (by simp) _).alloc (by simp; omega) _⟩
  case round =>
    obtain ⟨k, c, hk, hc, hc0, hc1, rfl, rfl, hA, hY, hZ, hbel⟩ := hrel
    have HC := Lib.hid hc
    clear hc
    by_cases hlt : k < 17
    · have e1 := hA.cell k hlt
      rw [upto_at] at e1
      have e2 := hY.cell k hlt
      have f1 := hA.free k
      have HA := Lib.hid hA
      have HYA := Lib.hid hY
      have HZ := Lib.hid hZ
      obtain ⟨b0, b1⟩ := dg_bound (by decide : (0 : Int) < 65536) X k
      obtain ⟨b2, b3⟩ := dg_bound (by decide : (0 : Int) < 65536) Y k
      have hand := and16_u32 (x := (dg 65536 X k - dg 65536 Y k - c) % 4294967296) (by omega) (by omega)
      have S := Lib.hid (bor2_step X Y k c _ HC.out hc0 hc1 rfl)
      clear hA hY hZ
      go_wp2
      go_quiet (fail)
      go_wp2
      go_roundw
      case rel => exact ⟨k + 1, _, by omega, S.out.2.1, S.out.2.2.1, S.out.2.2.2, rfl, by go_num, by rw [← upto_step S.out.1]; exact (HA.out.drewN _).set k _, (HYA.out.drewN _).other (by simp) _, (HZ.out.drewN _).other (by simp) _, (below_drewN hbel _).setCell (Nat.le_refl _) _⟩
      case measure => simp [intOf] <;> omega
    · obtain rfl : k = 17 := by omega
      go_wp2_with (first
        | (refine load_arr rfl 104 _ rfl .u32 w.heap.size 17 _ 102 Try.underlying104 Try.size104 rfl hA ?_)
        | (refine store_arr rfl 104 _ _ rfl .u32 (w.heap.size + 2) 17 (fun _ => 0) _ Try.size104 rfl rfl hZ ?_))
      refine bodyPost_ret (results_arr2 rfl _ _ .u32 (w.heap.size + 2) 17 _ 102 rfl (hZ.setRow _ _) Try.underlying104 Try.size104) rfl ⟨?_, below_setRow' hbel (by omega) _⟩
      rw [arr_congr (upto_full _ _ (Nat.le_refl _)), ← bor2_end HX.out HY.out HC.out]
      rfl

set_option maxRecDepth 100000 in
set_option maxHeartbeats 400000 in
theorem of_any (X : Int) (w : World) (hX : 0 ≤ X ∧ X < 65536 ^ 16) :
    Calls Try.prog 91 #[.agg (arr .u8 32 (dg 256 X))] w fun e w' =>
      e = .returned (.agg (arr .u32 17 (dg 65536 X))) ∧ Below w.heap.size w w' := by
  have HX := Lib.hid hX
  clear hX
  go_enter Try.func91, Try.ntmps91
  go_wp2
  go_loopw [5] (fun i wr => ∃ k : Nat, k ≤ 16 ∧ i = .int .i64 k ∧ Arr .u8 wr w.heap.size 32 (dg 256 X) ∧ Arr .u32 wr (w.heap.size + 1) 17 (fun _ => 0) ∧ Arr .u32 wr (w.heap.size + 2) 17 (upto k (dg 65536 X) (fun _ => 0)) ∧ Below w.heap.size w wr) (fun i _ => 16 - (intOf i).toNat)
  case atStart => exact ⟨0, Nat.zero_le _, rfl, Arr.alloc (Arr.alloc (Arr.newAt (by first | omega | (simp <;> omega)) (by rfl)) _) _, Arr.alloc (Arr.newAt (by first | omega | (simp <;> omega)) (by rfl)) _, by rw [upto_zero]; exact Arr.newAt (by first | omega | (simp <;> omega)) (by rfl), (((Below.refl _ _).alloc (Nat.le_refl _) _).alloc (by simp) _).alloc (by simp; omega) _⟩
  case round =>
    obtain ⟨k, hk, rfl, hA, hZ, hR, hbel⟩ := hrel
    by_cases hlt : k < 16
    · have e1 := hA.cell (2 * k) (by omega)
      have e2 := hA.cell (2 * k + 1) (by omega)
      have e3 := hR.cell k (by omega)
      have f3 := hR.free k
      obtain ⟨b0, b1⟩ := dg_bound (by decide : (0 : Int) < 256) X (2 * k)
      obtain ⟨b2, b3⟩ := dg_bound (by decide : (0 : Int) < 256) X (2 * k + 1)
      have hor := or8_u32 b0 b1 b2 b3
      have HA := Lib.hid hA
      have HZ := Lib.hid hZ
      have HR := Lib.hid hR
      clear hA hZ hR
      go_wp2
      go_region
      all_goals
        go_wp2
        go_roundw
        case rel => exact ⟨k + 1, by omega, by go_num, (HA.out.other (by first | omega | (simp <;> omega)) _).drew, (HZ.out.other (by first | omega | (simp <;> omega)) _).drew, by rw [← upto_step (pair16 X k).symm]; exact (HR.out.set k _).drew, (hbel.setCell (by first | omega | (simp <;> omega)) _).drew⟩
        case measure => simp [intOf] <;> omega
    · obtain rfl : k = 16 := by omega
      go_wp2_with (first
        | (refine load_arr rfl 104 _ rfl .u32 (w.heap.size + 2) 17 _ 102 Try.underlying104 Try.size104 rfl hR ?_)
        | (refine store_arr rfl 104 _ _ rfl .u32 (w.heap.size + 1) 17 (fun _ => 0) _ Try.size104 rfl rfl hZ ?_))
      refine bodyPost_ret (results_arr rfl _ _ .u32 (w.heap.size + 1) 17 _ 102 rfl (hZ.setRow _ _) Try.underlying104 Try.size104) rfl ⟨?_, below_setRow' hbel (by omega) _⟩
      rw [arr_congr (g := dg 65536 X) (fun i hi => ?_)]
      by_cases e : i < 16
      · exact if_pos e
      · obtain rfl : i = 16 := by omega
        rw [dg_small HX.out]; rfl

set_option maxRecDepth 100000 in
set_option maxHeartbeats 400000 in
theorem bytes_any (X : Int) (w : World) :
    Calls Try.prog 120 #[.agg (arr .u32 17 (dg 65536 X))] w fun e w' =>
      e = .returned (.agg (arr .u8 32 (dg 256 X))) ∧ Below w.heap.size w w' := by
  go_enter Try.func120, Try.ntmps120
  go_wp2
  go_loopw [5] (fun i wr => ∃ k : Nat, k ≤ 16 ∧ i = .int .i64 k ∧ Arr .u32 wr w.heap.size 17 (dg 65536 X) ∧ Arr .u8 wr (w.heap.size + 1) 32 (fun _ => 0) ∧ Arr .u8 wr (w.heap.size + 2) 32 (upto (2 * k) (dg 256 X) (fun _ => 0)) ∧ Below w.heap.size w wr) (fun i _ => 16 - (intOf i).toNat)
  case atStart => exact ⟨0, Nat.zero_le _, rfl, Arr.alloc (Arr.alloc (Arr.newAt (by first | omega | (simp <;> omega)) (by rfl)) _) _, Arr.alloc (Arr.newAt (by first | omega | (simp <;> omega)) (by rfl)) _, by rw [Nat.mul_zero, upto_zero]; exact Arr.newAt (by first | omega | (simp <;> omega)) (by rfl), (((Below.refl _ _).alloc (Nat.le_refl _) _).alloc (by simp) _).alloc (by simp; omega) _⟩
  case round =>
    obtain ⟨k, hk, rfl, hA, hZ, hR, hbel⟩ := hrel
    by_cases hlt : k < 16
    · have e1 := hA.cell k (by omega)
      have e2 := hR.cell (2 * k) (by omega)
      have e3 := hR.cell (2 * k + 1) (by omega)
      have f2 := hR.free (2 * k)
      have f3 := hR.free (2 * k + 1)
      obtain ⟨b0, b1⟩ := dg_bound (by decide : (0 : Int) < 65536) X k
      have HA := Lib.hid hA
      have HZ := Lib.hid hZ
      have HR := Lib.hid hR
      clear hA hZ hR
      go_wp2
      go_region
      all_goals
        go_wp2
        go_roundw
        case rel => exact ⟨k + 1, by omega, by go_num, ((HA.out.other (by first | omega | (simp <;> omega)) _).other (by first | omega | (simp <;> omega)) _).drew, ((HZ.out.other (by first | omega | (simp <;> omega)) _).other (by first | omega | (simp <;> omega)) _).drew, by rw [show 2 * (k + 1) = 2 * k + 1 + 1 by omega, ← upto_step (byte1 X k), ← upto_step (byte0 X k)]; exact ((HR.out.set (2 * k) _).set (2 * k + 1) _).drew, ((hbel.setCell (by first | omega | (simp <;> omega)) _).setCell (by first | omega | (simp <;> omega)) _).drew⟩
        case measure => simp [intOf] <;> omega
    · obtain rfl : k = 16 := by omega
      go_wp2_with (first
        | (refine load_arr rfl 22 _ rfl .u8 (w.heap.size + 2) 32 _ 5 Try.underlying22 Try.size22 rfl hR ?_)
        | (refine store_arr rfl 22 _ _ rfl .u8 (w.heap.size + 1) 32 (fun _ => 0) _ Try.size22 rfl rfl hZ ?_))
      refine bodyPost_ret (results_arr rfl _ _ .u8 (w.heap.size + 1) 32 _ 5 rfl (hZ.setRow _ _) Try.underlying22 Try.size22) rfl ⟨?_, below_setRow' hbel (by omega) _⟩
      rw [arr_congr (upto_full _ _ (Nat.le_refl _))]
end Go.Proofs.Ytdhejcaapdhhfaa
