/-
  bastilleref04.Power: what it makes. Conditions: named in each theorem.
-/
import Derived.Test.YtllkfkbioloaoaaFeAw
set_option linter.unusedVariables false
set_option linter.unusedSimpArgs false
namespace Go.Proofs.Ytllkfkbioloaoaa
open Go.RowKit Go.Bas
attribute [local go_sem ↓] Go.wp_at_zero Go.wp_at_succ

set_option maxRecDepth 100000 in
set_option maxHeartbeats 6400000 in
theorem fPower_any (va : Value) (A N : Int) (h0 : 0 ≤ N) (h1 : N < 2 ^ 256) (w : World) (ha : Rd .i64 w va 16 (dg 65536 (A % Pr))) :
    Calls Try.prog 88 #[va, .agg (arr .u8 32 (dg 256 N))] w fun e w' =>
      ∃ v, e = .returned v ∧ Rd .i64 w' v 16 (dg 65536 (A ^ N.toNat % Pr)) ∧ Below w.heap.size w w' := by
  have HA := Lib.hid ha
  have H0 := Lib.hid h0
  have H1 := Lib.hid h1
  clear ha h0 h1
  go_enter Try.func88, Try.ntmps88
  go_wp2_with fail
  refine (rSmall_any 1 (by decide) (by decide) _).mono ?_
  rintro e w1 ⟨v1, rfl, hv1, hb1⟩
  have hB1 : Arr .u8 w1 w.heap.size 32 (dg 256 N) := Arr.kept (Arr.newAt rfl (by rfl)) hb1
  have hbel1 : Below w.heap.size w w1 := ((Below.refl _ _).alloc (Nat.le_refl _) _).trans (hb1.mono (by simp))
  have HV1 := Lib.hid hv1.rd
  have HA1 := Lib.hid (HA.out.below hbel1)
  clear hv1 hb1
  go_wp2
  go_loopw [0, 5, 6] (fun a o i wr => ∃ k : Nat, k ≤ 32 ∧ i = .int .i64 k ∧ Rd .i64 wr a 16 (dg 65536 (A ^ (2 ^ (8 * k)) % Pr)) ∧ Rd .i64 wr o 16 (dg 65536 (pwOut A N (8 * k) % Pr)) ∧ Arr .u8 wr w.heap.size 32 (dg 256 N) ∧ Below w.heap.size w wr) (fun _ _ i _ => 32 - (intOf i).toNat)
  case atStart => exact ⟨0, Nat.zero_le _, rfl, by rw [Nat.mul_zero, Nat.pow_zero, Int.pow_succ, Int.pow_zero, Int.one_mul]; exact HA1.out, by rw [Nat.mul_zero, pwOut_zero]; exact HV1.out, hB1, hbel1⟩
  case round =>
    obtain ⟨k, hk, rfl, ha, ho, hB, hbel⟩ := hrel
    have HAa := Lib.hid ha
    have HO := Lib.hid ho
    clear ha ho
    by_cases hlt : k < 32
    · have e1 := hB.cell k hlt
      obtain ⟨d0, d1⟩ := dg_bound (by decide : (0 : Int) < 256) N k
      have HB := Lib.hid hB
      have HBel := Lib.hid hbel
      clear hB hbel
      go_wp2
      rw [show decide ((k : Int) < 32) = true by simp; omega]
      go_loopw [0, 5, 7, 8] (fun a o c i wr => ∃ j : Nat, j ≤ 8 ∧ i = .int .i64 j ∧ c = .int .i64 (dg 256 N k / 2 ^ j) ∧ Rd .i64 wr a 16 (dg 65536 (A ^ (2 ^ (8 * k + j)) % Pr)) ∧ Rd .i64 wr o 16 (dg 65536 (pwOut A N (8 * k + j) % Pr)) ∧ Arr .u8 wr w.heap.size 32 (dg 256 N) ∧ Below w.heap.size w wr) (fun _ _ _ i _ => 8 - (intOf i).toNat)
      case atStart => exact ⟨0, Nat.zero_le _, rfl, by rw [Int.pow_zero, Int.ediv_one], HAa.out, HO.out, HB.out, HBel.out⟩
      case round =>
        clear HAa HO HB HBel e1
        obtain ⟨j, hj, rfl, rfl, ha, ho, hB, hbel⟩ := hrel
        have HAa := Lib.hid ha
        have HO := Lib.hid ho
        have HB := Lib.hid hB
        have HBel := Lib.hid hbel
        clear ha ho hB hbel
        by_cases hlt2 : j < 8
        · have hbit := byte_bit N k j hlt2
          have hnx : dg 256 N k / 2 ^ (j + 1) = dg 256 N k / 2 ^ j / 2 := div_succ (by decide) _ _
          have c0 : 0 ≤ dg 256 N k / 2 ^ j := Int.ediv_nonneg d0 (Int.le_of_lt (pow_pos' (by decide) _))
          have c1 : dg 256 N k / 2 ^ j < 256 := Int.lt_of_le_of_lt (Int.ediv_le_self _ d0) d1
          obtain ⟨c, hc⟩ : ∃ c, c = dg 256 N k / 2 ^ j := ⟨_, rfl⟩
          rw [← hc] at hbit hnx c0 c1 ⊢
          have hps := pwOut_step A N (8 * k + j)
          rw [← hbit] at hps
          have HPS := Lib.hid hps
          have HNX := Lib.hid hnx
          have HSQ := Lib.hid (sqr_step A (8 * k + j))
          obtain ⟨S, hS⟩ : ∃ S, S = A ^ (2 ^ (8 * k + j)) := ⟨_, rfl⟩
          obtain ⟨O, hO⟩ : ∃ O, O = pwOut A N (8 * k + j) := ⟨_, rfl⟩
          rw [← hS] at HAa HSQ HPS
          rw [← hO] at HO HPS
          clear hbit hnx hc hps hS hO
          by_cases hodd : c % 2 = 1
          · rw [if_pos hodd] at HPS
            have hob : (c % 2 == 1) = true := by rw [hodd]; rfl
            clear hodd
            go_wp2_with fail
            refine (fMul_rd O S _ _ _ HO.out HAa.out).mono ?_
            rintro e w3 ⟨v3, rfl, hv3, hb3⟩
            have HV3 := Lib.hid hv3
            have HAa3 := Lib.hid (HAa.out.below hb3)
            have HB3 := Lib.hid (HB.out.kept hb3)
            have HBel3 := Lib.hid (HBel.out.trans (hb3.mono HBel.out.size))
            clear hv3 hb3 HAa HB HBel
            go_wp2_with fail
            refine (fMul_rd S S _ _ _ HAa3.out HAa3.out).mono ?_
            rintro e w4 ⟨v4, rfl, hv4, hb4⟩
            have HV4 := Lib.hid hv4
            have HV34 := Lib.hid (HV3.out.below hb4)
            have HB4 := Lib.hid (HB3.out.kept hb4)
            have HBel4 := Lib.hid (HBel3.out.trans (hb4.mono HBel3.out.size))
            clear hv4 hb4
            go_wp2
            go_roundw
            case rel => exact ⟨j + 1, by omega, by go_num, by rw [HNX.out], by rw [show 8 * k + (j + 1) = 8 * k + j + 1 by omega, HSQ.out]; exact HV4.out, by rw [show 8 * k + (j + 1) = 8 * k + j + 1 by omega, HPS.out]; exact HV34.out, HB4.out, HBel4.out⟩
            case measure => simp [intOf] <;> omega
          · rw [if_neg hodd] at HPS
            have hob : (c % 2 == 1) = false := by simpa using hodd
            clear hodd
            go_wp2_with fail
            refine (fMul_rd S S _ _ _ HAa.out HAa.out).mono ?_
            rintro e w4 ⟨v4, rfl, hv4, hb4⟩
            have HV4 := Lib.hid hv4
            have HO4 := Lib.hid (HO.out.below hb4)
            have HB4 := Lib.hid (HB.out.kept hb4)
            have HBel4 := Lib.hid (HBel.out.trans (hb4.mono HBel.out.size))
            clear hv4 hb4
            go_wp2
            go_roundw
            case rel => exact ⟨j + 1, by omega, by go_num, by rw [HNX.out], by rw [show 8 * k + (j + 1) = 8 * k + j + 1 by omega, HSQ.out]; exact HV4.out, by rw [show 8 * k + (j + 1) = 8 * k + j + 1 by omega, HPS.out]; exact HO4.out, HB4.out, HBel4.out⟩
            case measure => simp [intOf] <;> omega
        · obtain rfl : j = 8 := by omega
          go_wp2
          go_roundw
          case rel => exact ⟨k + 1, by omega, by go_num, HAa.out, HO.out, HB.out, HBel.out⟩
          case measure => simp [intOf] <;> omega
    · obtain rfl : k = 32 := by omega
      have HF := Lib.hid (pwOut_full (X := A) H0.out H1.out)
      have HBel := Lib.hid hbel
      clear hB hbel
      go_wp2
      go_ret
      exact ⟨_, rfl, by rw [← HF.out]; exact HO.out, HBel.out⟩
end Go.Proofs.Ytllkfkbioloaoaa
