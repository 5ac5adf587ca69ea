/-
  (fe.Element).reduced, Bytes, Equal, Odd: what each makes. Conditions: named in each theorem.
-/
import Derived.Test.YtllkfkbioloaoaaFe2
set_option linter.unusedVariables false
set_option linter.unusedSimpArgs false
namespace Go.Proofs.Ytllkfkbioloaoaa
open Go.RowKit Go.Bas
attribute [local go_sem ↓] Go.wp_at_zero Go.wp_at_succ

/-- k times less the prime, if that is not below 0. -/
def subN (Y : Int) : Nat → Int
  | 0 => Y
  | k + 1 => sub1 (subN Y k)
theorem subN_bound {Y : Int} (h0 : 0 ≤ Y) (h1 : Y < 65536 ^ 16) : ∀ k, 0 ≤ subN Y k ∧ subN Y k < 65536 ^ 16
  | 0 => ⟨h0, h1⟩
  | k + 1 => sub1_bound (subN_bound h0 h1 k).1 (subN_bound h0 h1 k).2
theorem choose_sub1 (Y : Int) : (if geP Y = 1 then dg 65536 (Y - Pr) else dg 65536 Y) = dg 65536 (sub1 Y) := by
  unfold geP sub1
  by_cases h : Pr ≤ Y
  · rw [if_pos h, if_pos rfl, if_pos h]
  · rw [if_neg h, if_neg (by decide), if_neg h]
theorem geP_01 (Y : Int) : geP Y = 0 ∨ geP Y = 1 := by unfold geP; split <;> omega
theorem dg_i64 (X : Int) : ∀ i, i < 16 → -9223372036854775808 ≤ dg 65536 X i ∧ dg 65536 X i < 9223372036854775808 := fun i _ => by have := dg_bound (by decide : (0 : Int) < 65536) X i; omega
theorem dg_small2 (X : Int) : ∀ i, i < 16 → -4000000000000000 ≤ dg 65536 X i ∧ dg 65536 X i ≤ 4000000000000000 := fun i _ => by have := dg_bound (by decide : (0 : Int) < 65536) X i; omega

theorem less_any' (Y : Int) (h0 : 0 ≤ Y) (h1 : Y < 65536 ^ 16) (w : World) :
    Calls Try.prog 112 #[.agg (arr .i64 16 (dg 65536 Y))] w fun e w' => e = .returned (.tuple #[.agg (arr .i64 16 (dg 65536 (Y - Pr))), .int .i64 (geP Y)]) ∧ Below w.heap.size w w' := feLess_any Y h0 h1 w
theorem choose_any' (Y : Int) (w : World) :
    Calls Try.prog 104 #[.agg (arr .i64 16 (dg 65536 Y)), .agg (arr .i64 16 (dg 65536 (Y - Pr))), .int .i64 (geP Y)] w fun e w' => e = .returned (.agg (arr .i64 16 (dg 65536 (sub1 Y)))) ∧ Below w.heap.size w w' := by
  have h := feChoose_any (dg 65536 Y) (dg 65536 (Y - Pr)) (geP Y) (geP_01 Y) (dg_i64 _) (dg_i64 _) w
  rw [choose_sub1] at h
  exact h

set_option maxRecDepth 100000 in
set_option maxHeartbeats 3200000 in
theorem feReduced_any (f : Nat → Int) (X : Int) (hf : Fe f X) (w : World) :
    Calls Try.prog 111 #[El f] w fun e w' => e = .returned (El (dg 65536 (X % Pr))) ∧ Below w.heap.size w w' := by
  obtain ⟨Y, y0, y1, hY, hc⟩ := hf.canon
  have HF := Lib.hid hf
  have HY := Lib.hid hY
  have HC := Lib.hid hc
  have H0 := Lib.hid y0
  have H1 := Lib.hid y1
  clear hf hY hc y0 y1
  unfold El
  go_enter Try.func111, Try.ntmps111
  go_wp2_with fail
  have hb0 : Below w.heap.size w ((w.alloc (.cells (arr .i64 16 f) 141)).alloc (.cells (arr .i64 16 (fun _ => 0)) 141)) := ((Below.refl _ _).alloc (Nat.le_refl _) _).alloc (by simp) _
  have hZ0 : Arr .i64 ((w.alloc (.cells (arr .i64 16 f) 141)).alloc (.cells (arr .i64 16 (fun _ => 0)) 141)) (w.heap.size + 1) 16 (fun _ => 0) := Arr.newAt (by first | omega | (simp <;> omega)) rfl
  refine (carry_any f w.heap.size _ (Arr.alloc (Arr.new .i64 w 141 16 f) _) (fun i hi => by have := HF.out.1.bound i hi; omega)).mono ?_
  rintro e w1 ⟨⟨v, rfl⟩, hA1, hg1⟩
  have hZ1 := hZ0.grown hg1 (by simp)
  have hb1 := hb0.trans (Gr.below hg1 (Nat.le_refl _) hb0.size)
  have hA1' := hA1.congr HC.out
  clear hb0 hZ0 hA1 hg1
  go_wp2_with fail
  refine (carry_any (dg 65536 Y) w.heap.size _ hA1' (dg_small2 Y)).mono ?_
  rintro e w2 ⟨⟨v, rfl⟩, hA2, hg2⟩
  have hZ2 := hZ1.grown hg2 (by simp)
  have hb2 := hb1.trans (Gr.below hg2 (Nat.le_refl _) hb1.size)
  have hA2' := hA2.congr (crr_dg (fun i _ => dg_bound (by decide) Y i))
  clear hb1 hZ1 hA1' hA2 hg2
  go_wp2_with fail
  refine (carry_any (dg 65536 Y) w.heap.size _ hA2' (dg_small2 Y)).mono ?_
  rintro e w3 ⟨⟨v, rfl⟩, hA3, hg3⟩
  have hZ3 := hZ2.grown hg3 (by simp)
  have hb3 := hb2.trans (Gr.below hg3 (Nat.le_refl _) hb2.size)
  have hA3' := hA3.congr (crr_dg (fun i _ => dg_bound (by decide) Y i))
  clear hb2 hZ2 hA2' hA3 hg3
  go_wp2
  go_loopw [8] (fun i wr => ∃ k : Nat, k ≤ 2 ∧ i = .int .i64 k ∧ Arr .i64 wr w.heap.size 16 (dg 65536 (subN Y k)) ∧ Arr .i64 wr (w.heap.size + 1) 16 (fun _ => 0) ∧ Below w.heap.size w wr) (fun i _ => 2 - (intOf i).toNat)
  case atStart => exact ⟨0, Nat.zero_le _, rfl, hA3', hZ3, hb3⟩
  case round =>
    obtain ⟨k, hk, rfl, hA, hZ, hbel⟩ := hrel
    by_cases hlt : k < 2
    · have hsb := subN_bound H0.out H1.out k
      have HSB := Lib.hid hsb
      clear hsb
      go_wp2_with (refine load_str rfl 141 _ rfl .i64 w.heap.size 16 _ Try.underlying141 rfl Try.size141 rfl hA ?_)
      refine (less_any' (subN Y k) HSB.out.1 HSB.out.2 _).mono ?_
      rintro e w4 ⟨rfl, hb4⟩
      have hA4 := hA.kept hb4
      have hZ4 := hZ.kept hb4
      have hbel4 := hbel.trans (hb4.mono hbel.size)
      have l4 := hZ4.lt
      clear hA hZ hbel hb4
      go_upto_region 7 with (refine store_arr rfl 141 _ _ rfl .i64 w4.heap.size 16 (fun _ => 0) _ Try.size141 rfl rfl (Arr.newAt rfl rfl) ?_)
      refine wp_world (fun w5 => Arr .i64 w5 w4.heap.size 16 (dg 65536 (subN Y k - Pr)) ∧ Arr .i64 w5 w.heap.size 16 (dg 65536 (subN Y k)) ∧ Arr .i64 w5 (w.heap.size + 1) 16 (fun _ => 0) ∧ Below w.heap.size w w5)
        ⟨Arr.setRow (Arr.newAt (n := 16) (f := fun _ => 0) rfl rfl) _ _, Arr.setRowOther (Arr.alloc hA4 _) _ (by omega) _, Arr.setRowOther (Arr.alloc hZ4 _) _ (by omega) _, below_setRow' (hbel4.alloc hbel4.size _) hbel4.size _⟩ ?_
      rintro w5 ⟨hB, hA, hZ, hbel⟩
      clear hA4 hZ4 hbel4 l4
      go_wp2_with (first
        | (refine load_str rfl 141 (.tmp 1) rfl .i64 w.heap.size 16 _ Try.underlying141 rfl Try.size141 rfl hA ?_)
        | (refine load_str rfl 141 (.tmp 3) rfl .i64 w4.heap.size 16 _ Try.underlying141 rfl Try.size141 rfl hB ?_))
      refine (choose_any' (subN Y k) _).mono ?_
      rintro e w6 ⟨rfl, hb6⟩
      have hA6 := hA.kept hb6
      have hZ6 := hZ.kept hb6
      have hbel6 := hbel.trans (hb6.mono hbel.size)
      clear hA hB hZ hbel hb6
      go_wp2_with (refine store_arr rfl 141 _ _ rfl .i64 w.heap.size 16 _ _ Try.size141 rfl rfl hA6 ?_)
      go_roundw
      case rel => exact ⟨k + 1, by omega, by go_num, hA6.setRow _ _, hZ6.setRowOther _ (by omega) _, below_setRow' hbel6 (Nat.le_refl _) _⟩
      case measure => simp [intOf] <;> omega
    · obtain rfl : k = 2 := by omega
      have hfin : subN Y 2 = X % Pr := by rw [← HY.out]; exact sub1_twice H0.out H1.out
      rw [hfin] at hA
      clear hfin
      go_wp2_with (first
        | (refine load_str rfl 141 _ rfl .i64 w.heap.size 16 _ Try.underlying141 rfl Try.size141 rfl hA ?_)
        | (refine store_arr rfl 141 _ _ rfl .i64 (w.heap.size + 1) 16 (fun _ => 0) _ Try.size141 rfl rfl hZ ?_))
      exact bodyPost_ret (results_str rfl _ _ .i64 (w.heap.size + 1) 16 _ rfl (hZ.setRow _ _) Try.underlying141 rfl Try.size141) rfl ⟨rfl, below_setRow' hbel (by omega) _⟩

theorem modP (X : Int) : 0 ≤ X % Pr ∧ X % Pr < Pr := ⟨Int.emod_nonneg _ (by decide), Int.emod_lt_of_pos _ (by decide)⟩
theorem modP16 (X : Int) : 0 ≤ X % Pr ∧ X % Pr < 65536 ^ 16 := ⟨(modP X).1, Int.lt_trans (modP X).2 Pr16.2⟩
theorem modP_byte (X : Int) : 0 ≤ X % Pr ∧ X % Pr < 256 ^ 32 := ⟨(modP X).1, Int.lt_trans (modP X).2 (by decide)⟩

set_option maxRecDepth 100000 in
set_option maxHeartbeats 3200000 in
theorem feBytes_any (f : Nat → Int) (X : Int) (hf : Fe f X) (w : World) :
    Calls Try.prog 98 #[El f] w fun e w' => e = .returned (.agg (arr .u8 32 (dg 256 (X % Pr)))) ∧ Below w.heap.size w w' := by
  have HF := Lib.hid hf
  clear hf
  unfold El
  go_enter Try.func98, Try.ntmps98
  go_wp2_with (refine load_str rfl 141 _ rfl .i64 w.heap.size 16 _ Try.underlying141 rfl Try.size141 rfl (Arr.alloc (Arr.new .i64 w 141 16 f) _) ?_)
  refine (feReduced_any f X HF.out _).mono ?_
  rintro e w1 ⟨rfl, hb1⟩
  have hA1 : Arr .i64 w1 w.heap.size 16 f := Arr.kept (Arr.alloc (Arr.new .i64 w 141 16 f) _) hb1
  have hZ1 : Arr .u8 w1 (w.heap.size + 1) 32 (fun _ => 0) := Arr.kept (Arr.newAt (by first | omega | (simp <;> omega)) (by rfl)) hb1
  have hbel1 : Below w.heap.size w w1 := (((Below.refl _ _).alloc (Nat.le_refl _) _).alloc (by simp) _).trans (hb1.mono (by simp; omega))
  have l1 := hZ1.lt
  clear hb1
  unfold El
  go_upto_region 3 with (refine store_arr rfl 141 _ _ rfl .i64 w.heap.size 16 _ _ Try.size141 rfl rfl hA1 ?_)
  refine wp_world (fun w2 => Arr .i64 w2 w.heap.size 16 (dg 65536 (X % Pr)) ∧ Arr .u8 w2 (w.heap.size + 1) 32 (fun _ => 0) ∧ Arr .u8 w2 w1.heap.size 32 (fun _ => 0) ∧ Below w.heap.size w w2)
    ⟨Arr.alloc (hA1.setRow _ _) _, Arr.alloc (hZ1.setRowOther _ (by omega) _) _, Arr.newAt (by simp) (by rfl), (below_setRow' hbel1 (Nat.le_refl _) _).alloc (by simp; exact hbel1.size) _⟩ ?_
  rintro w2 ⟨hA, hZ, hR, hbel⟩
  clear hA1 hZ1 hbel1
  obtain ⟨Z, hZe⟩ : ∃ Z, Z = X % Pr := ⟨_, rfl⟩
  rw [← hZe] at hA ⊢
  obtain ⟨b, hbe⟩ : ∃ b, b = w1.heap.size := ⟨_, rfl⟩
  rw [← hbe] at hR l1 ⊢
  have HZE := Lib.hid hZe
  clear hZe hbe
  go_wp2_with (refine load_arr rfl 139 _ rfl .i64 w.heap.size 16 _ 2 Try.underlying139 Try.size139 rfl hA ?_)
  go_loopw [10] (fun i wr => ∃ k : Nat, k ≤ 16 ∧ i = .int .i64 k ∧ Arr .u8 wr (w.heap.size + 1) 32 (fun _ => 0) ∧ Arr .u8 wr b 32 (upto (2 * k) (dg 256 Z) (fun _ => 0)) ∧ Below w.heap.size w wr) (fun i _ => 16 - (intOf i).toNat)
  case atStart => exact ⟨0, Nat.zero_le _, rfl, hZ, by rw [Nat.mul_zero, upto_zero]; exact hR, hbel⟩
  case round =>
    clear hA hZ hR hbel
    obtain ⟨k, hk, rfl, hZ, hR, hbel⟩ := hrel
    by_cases hlt : k < 16
    · have hix := run_index_arr (f := dg 65536 Z) Try.underlying139 Try.underlying2 Try.size2 k hlt
      have e2 := hR.cell (2 * k) (by omega)
      have e3 := hR.cell (2 * k + 1) (by omega)
      have f2 := hR.free (2 * k)
      have f3 := hR.free (2 * k + 1)
      obtain ⟨b0, b1⟩ := dg_bound (by decide : (0 : Int) < 65536) Z k
      have HZ := Lib.hid hZ
      have HR := Lib.hid hR
      clear hZ hR
      go_wp2
      go_roundw
      case rel => exact ⟨k + 1, by omega, by go_num, (HZ.out.other (by simp; omega) _).other (by simp; omega) _, by rw [show 2 * (k + 1) = 2 * k + 1 + 1 by omega, ← upto_step (byte1 Z k), ← upto_step (byte0 Z k)]; exact (HR.out.set (2 * k) _).set (2 * k + 1) _, (hbel.setCell (by simp; omega) _).setCell (by simp; omega) _⟩
      case measure => simp [intOf] <;> omega
    · obtain rfl : k = 16 := by omega
      have hR2 := hR.congr (upto_full _ _ (Nat.le_refl _))
      go_wp2_with (first
        | (refine load_arr rfl 88 _ rfl .u8 b 32 _ 5 Try.underlying88 Try.size88 rfl hR2 ?_)
        | (refine store_arr rfl 88 _ _ rfl .u8 (w.heap.size + 1) 32 (fun _ => 0) _ Try.size88 rfl rfl hZ ?_))
      exact bodyPost_ret (results_arr rfl _ _ .u8 (w.heap.size + 1) 32 _ 5 rfl (hZ.setRow _ _) Try.underlying88 Try.size88) rfl ⟨by rw [HZE.out], below_setRow' hbel (by omega) _⟩

/-- whether two numbers are one modulo the prime. -/
def eqP (X Y : Int) : Bool := decide (X % Pr = Y % Pr)
theorem sameB_modP (X Y : Int) : sameB 32 (dg 256 (X % Pr)) (dg 256 (Y % Pr)) = eqP X Y := by
  unfold eqP
  by_cases h : X % Pr = Y % Pr
  · rw [h, decide_eq_true rfl]; exact sameB_self
  · rw [decide_eq_false h]
    exact sameB_no fun e => h (eq_of_dg (by decide) (modP_byte X) (modP_byte Y) e)

end Go.Proofs.Ytllkfkbioloaoaa
