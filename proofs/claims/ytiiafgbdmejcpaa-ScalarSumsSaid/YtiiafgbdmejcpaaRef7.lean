/-
  bastilleref06.Mod: any digits modulo the order. Conditions: named in each theorem.
-/
import Derived.Test.YtiiafgbdmejcpaaRef6
namespace Go.Proofs.Ytiiafgbdmejcpaa
open Go.RowKit Go.Bas
attribute [local go_sem ↓] Go.wp_at_zero Go.wp_at_succ

theorem car2_step' (X b : Int) (k : Nat) : (2 * dg 65536 X k + car2 X b k) % 65536 = dg 65536 (2 * X + b) k ∧ (2 * dg 65536 X k + car2 X b k) / 65536 = car2 X b (k + 1) := by
  rw [Int.mul_comm 2 (dg 65536 X k)]; exact car2_step X b k
theorem Q17 : 0 ≤ Q ∧ Q < 65536 ^ 17 := by decide
theorem low_bit (Y : Int) (b : Nat) (h : b < 16) : Y % 65536 / 2 ^ b % 2 = Y / 2 ^ b % 2 := by
  have hp : (0 : Int) < 2 ^ b := Int.pow_pos (by decide)
  have e : (65536 : Int) = 2 ^ b * (2 ^ (15 - b) * 2) := by
    rw [← Int.pow_succ, ← Int.pow_add, show b + (15 - b + 1) = 16 by omega]; rfl
  have h1 := Int.emod_add_mul_ediv Y 65536
  rw [e] at h1 ⊢
  generalize hr : Y % (2 ^ b * (2 ^ (15 - b) * 2)) = r at h1 ⊢
  generalize Y / (2 ^ b * (2 ^ (15 - b) * 2)) = q at h1
  rw [← h1, Int.mul_assoc, Int.mul_comm (2 ^ b), Int.add_mul_ediv_right _ _ (by omega), Int.mul_comm (2 ^ (15 - b)), Int.mul_assoc, Int.add_mul_emod_self_left]
theorem mod_half (X : Int) (m b : Nat) (h : b < 16) : once (2 * (X / 65536 ^ m / 2 ^ (b + 1) % Q) + dg 65536 X m / ((2 ^ b : Nat) : Int) % 2) = X / 65536 ^ m / 2 ^ b % Q := by
  have h1 := once_half (X / 65536 ^ m) b
  rw [← low_bit (X / 65536 ^ m) b h] at h1
  rw [← h1]
  unfold dg
  rw [show (((2 : Nat) ^ b : Nat) : Int) = (2 : Int) ^ b by simp]

set_option maxRecDepth 100000 in
set_option maxHeartbeats 3200000 in
theorem rMod_any (v : Value) (X : Int) (n : Nat) (hn : n ≤ 1000) (hX : 0 ≤ X ∧ X < 65536 ^ n) (w : World) (hv : Rd .i64 w v n (dg 65536 X)) :
    Calls Try.prog 61 #[v] w fun e w' =>
      ∃ v, e = .returned v ∧ Rd .i64 w' v 16 (dg 65536 (X % Q)) ∧ Below w.heap.size w w' := by
  have HV := Lib.hid hv
  obtain ⟨a1, c1, rfl, l1, m1, z1, h1⟩ := hv
  have H1 := Lib.hid h1
  have HX := Lib.hid hX
  clear z1 h1 hX
  go_enter Try.func61, Try.ntmps61
  go_wp2_with fail
  refine (rQ_any w).mono ?_
  rintro e w1 ⟨q, rfl, hq, hb1⟩
  go_wp2_with (first
    | (at_builtin; refine append_new rfl _ _ 59 rfl w.heap.size 3 .i64 8 Try.underlying59 Try.info3 _ 16 (dg 65536 Q) _ _ rfl hq rfl 1 rfl rfl ?_ (by decide) (by decide) hb1.size ?_; rotate_right; intro v' w2 hown hgrow)
    | (refine make_ints rfl _ _ 59 rfl w2.heap.size 3 .i64 8 Try.underlying59 Try.info3 .i64 .i64 17 rfl rfl (by decide) (by decide) (Nat.le_refl _) ?_; intro w3 hown3 hgrow3))
  · have hb2 : Below w.heap.size w w2 := below_grown ((hb1.alloc hb1.size _)) hgrow hq (by simp; have := hb1.size; omega) (Nat.le_refl _)
    have hb3 : Below w2.heap.size w2 w3 := below_grown0 (Below.refl _ _) hgrow3 (Nat.le_refl _)
    have hQ : Rd .i64 w2 v' 17 (dg 65536 Q) := hown.rd
    have HQ := Lib.hid hQ
    clear hgrow hgrow3 hq hb1 hown hQ
    go_loopw [4, 5] (fun r i wr => ∃ k : Nat, k ≤ n ∧ i = .int .i64 ((k : Int) - 1) ∧ Own .i64 3 w2.heap.size wr r 17 (dg 65536 (X / 65536 ^ k % Q)) ∧ Below w2.heap.size w2 wr) (fun _ i _ => (intOf i + 1).toNat)
    case atStart => exact ⟨n, Nat.le_refl _, rfl, hown3.congr (fun i _ => by rw [Int.ediv_eq_zero_of_lt HX.out.1 HX.out.2]; simp [dg]), hb3⟩
    case round =>
      obtain ⟨k, hk, rfl, ho, hbel⟩ := hrel
      obtain _ | m := k
      · obtain ⟨g, cc, rfl, _, hgl, hc17, hcc, hcell, _⟩ := ho.form (by decide)
        clear ho
        have hr : Rd .i64 wr (.slice (some ⟨g, 0, none⟩) 16 cc) 16 (dg 65536 (X / 65536 ^ 0 % Q)) := ⟨_, cc, rfl, by omega, hcc, (fun h => by cases h), fun _ => ⟨g, 0, rfl, hgl, fun i hi => by rw [Nat.zero_add]; exact hcell i (by omega)⟩⟩
        have HR := Lib.hid hr
        clear hr hcell
        go_wp2
        go_ret
        exact ⟨_, rfl, by have := HR.out; rwa [Int.pow_zero, Int.ediv_one] at this, hb2.trans (hbel.mono hb2.size)⟩
      · have HO := Lib.hid ho
        have HB := Lib.hid hbel
        clear ho hbel
        go_wp2
        go_loopw [4, 6] (fun r x wr => ∃ b : Nat, b ≤ 16 ∧ x = .int .i64 ((2 ^ b / 2 : Nat) : Int) ∧ Own .i64 3 w2.heap.size wr r 17 (dg 65536 (X / 65536 ^ m / 2 ^ b % Q)) ∧ Below w2.heap.size w2 wr) (fun _ x _ => (intOf x).toNat)
        case atStart => exact ⟨16, Nat.le_refl _, rfl, by rw [show (2 : Int) ^ 16 = 65536 from rfl, ← div_succ (by decide)]; exact HO.out, HB.out⟩
        case round =>
          obtain ⟨b, hb, rfl, ho, hbel⟩ := hrel
          have HO2 := Lib.hid ho
          clear ho
          obtain _ | b' := b
          · go_wp2
            go_roundw
            case rel => exact ⟨m, by omega, by go_num, by have := HO2.out; rwa [Int.pow_zero, Int.ediv_one] at this, hbel⟩
            case measure => simp [intOf] <;> omega
          · have hd2 : (2 ^ (b' + 1) / 2 : Nat) = 2 ^ b' := by rw [Nat.pow_succ]; omega
            rw [hd2]
            obtain ⟨D, hD⟩ : ∃ D : Nat, D = 2 ^ b' := ⟨_, rfl⟩
            have hD0 : 0 < D := by rw [hD]; exact Nat.pow_pos (by decide)
            have hD1 : D ≤ 32768 := by rw [hD]; exact Nat.pow_le_pow_right (by decide) (by omega : b' ≤ 15)
            rw [← hD]
            have HDD := Lib.hid hD
            clear hD hd2
            obtain ⟨b1, o1, rfl, s1, e1⟩ := H1.out (by omega)
            have c1 := ((hb2.trans (hbel.mono hb2.size)).cell (p := ⟨b1, o1 + m, none⟩) s1).trans (e1 m (by omega))
            have hkm : ((m + 1 : Nat) : Int) - 1 = (m : Int) := by omega
            rw [hkm]
            clear e1
            obtain ⟨x0, x1⟩ := dg_bound (by decide : (0 : Int) < 65536) X m
            obtain ⟨q, hq⟩ : ∃ q, q = (dg 65536 X m).tdiv (D : Int) := ⟨_, rfl⟩
            have hqe : q = dg 65536 X m / D := by rw [hq, Int.tdiv_eq_ediv_of_nonneg x0]
            have q0 : 0 ≤ q := by rw [hqe]; exact Int.ediv_nonneg x0 (by omega)
            have q1 : q < 65536 := by rw [hqe]; exact Int.lt_of_le_of_lt (Int.ediv_le_self _ x0) x1
            have hq' := hq.symm
            have HQE := Lib.hid hqe
            clear hq hqe
            obtain ⟨g, cc, rfl, hg0, hgl, hc17, hcc, hcell, hfree⟩ := HO2.out.form (by decide)
            clear hcell hfree
            obtain ⟨R, hR⟩ : ∃ R, R = X / 65536 ^ m / 2 ^ (b' + 1) % Q := ⟨_, rfl⟩
            rw [← hR] at HO2
            have HRR := Lib.hid hR
            have HBB := Lib.hid hbel
            clear hR hbel
            obtain ⟨c, hc⟩ : ∃ c, c = q % 2 := ⟨_, rfl⟩
            have c0 : 0 ≤ c ∧ c ≤ 1 := by omega
            have hc' := hc.symm
            have HCE := Lib.hid hc
            clear hc
            go_wp2
            go_loopw [7, 8] (fun x i wr => ∃ (k : Nat) (z : Int), k ≤ 17 ∧ z = car2 R c k ∧ 0 ≤ z ∧ z ≤ 1 ∧ x = .int .i64 z ∧ i = .int .i64 k ∧ Own .i64 3 w2.heap.size wr (.slice (some ⟨g, 0, none⟩) 17 cc) 17 (upto k (dg 65536 (2 * R + c)) (dg 65536 R)) ∧ Below w2.heap.size w2 wr) (fun _ i _ => 17 - (intOf i).toNat)
            case atStart => exact ⟨0, c, Nat.zero_le _, (car2_zero _ _).symm, c0.1, c0.2, by rw [hc'], rfl, by rw [upto_zero]; exact HO2.out, HBB.out⟩
            case round =>
              obtain ⟨k, z, hk, hz, z0, z1, rfl, rfl, ho, hbel⟩ := hrel
              have HZ := Lib.hid hz
              clear hz
              by_cases hkt : k < 17
              · obtain ⟨g', cc', he, _, _, _, _, hcell, hfree⟩ := ho.form (by decide)
                simp only [Value.slice.injEq, Option.some.injEq, Addr.mk.injEq] at he
                obtain ⟨⟨rfl, _⟩, _⟩ := he
                have e1 := hcell k hkt
                have f1 := hfree k
                rw [upto_at] at e1
                obtain ⟨x0, x1⟩ := dg_bound (by decide : (0 : Int) < 65536) R k
                have hst := car2_step' R c k
                rw [← HZ.out] at hst
                have HST := Lib.hid hst
                have HO3 := Lib.hid ho
                clear ho hst hcell hfree
                go_wp2
                go_roundw
                case rel => exact ⟨k + 1, _, by omega, HST.out.2, by omega, by omega, rfl, by go_num, by rw [← upto_step HST.out.1]; exact HO3.out.store k _, hbel.setCell hg0 _⟩
                case measure => simp [intOf] <;> omega
              · obtain rfl : k = 17 := by omega
                have ho3 := ho.congr (upto_full _ _ (Nat.le_refl _))
                have HO3 := Lib.hid ho3
                clear ho ho3
                have hbnd : 0 ≤ 2 * R + c ∧ 2 * R + c < 65536 ^ 17 := by rw [HRR.out]; exact once_bound _ _ c0
                have HBND := Lib.hid hbnd
                have hfin : once (2 * R + c) = X / 65536 ^ m / 2 ^ b' % Q := by rw [HRR.out, HCE.out, HQE.out, HDD.out]; exact mod_half X m b' (by omega)
                have HFIN := Lib.hid hfin
                have hsz := hbel.size
                clear hbnd hfin
                have hcon := rAtLeast_any _ v' (2 * R + c) Q 17 17 (Nat.le_refl _) wr HO3.out.rd (HQ.out.below hbel) HBND.out Q17
                by_cases hge : Q ≤ 2 * R + c
                · rw [decide_eq_true hge] at hcon
                  have hon : once (2 * R + c) = 2 * R + c - Q := by unfold once; rw [if_pos hge]
                  rw [HFIN.out] at hon
                  have HON := Lib.hid hon
                  have HCON := Lib.hid hcon
                  clear hon hge hcon
                  go_wp2_with fail
                  refine (HCON.out).mono ?_
                  rintro e w5 ⟨rfl, hb5⟩
                  go_wp2_with fail
                  refine (rLess_any _ v' (2 * R + c) Q 17 17 (Nat.le_refl _) (by decide) w5 (HO3.out.rd.below hb5) ((HQ.out.below hbel).below hb5)).mono ?_
                  rintro e w6 ⟨v6, rfl, ho6, hb6⟩
                  have HO6 := Lib.hid ho6
                  clear ho6
                  go_wp2
                  go_roundw
                  case rel => exact ⟨b', by omega, by rw [← HDD.out]; rfl, by rw [HON.out]; exact HO6.out.mono (by have := hb5.size; omega), (hbel.trans (hb5.mono hsz)).trans (hb6.mono (by have := hb5.size; omega))⟩
                  case measure => simp [intOf] <;> omega
                · rw [decide_eq_false hge] at hcon
                  have hon : once (2 * R + c) = 2 * R + c := by unfold once; rw [if_neg hge]
                  rw [HFIN.out] at hon
                  have HON := Lib.hid hon
                  have HCON := Lib.hid hcon
                  clear hon hge hcon
                  go_wp2_with fail
                  refine (HCON.out).mono ?_
                  rintro e w5 ⟨rfl, hb5⟩
                  go_wp2
                  go_roundw
                  case rel => exact ⟨b', by omega, by rw [← HDD.out]; rfl, by rw [HON.out]; exact HO3.out.below hb5, hbel.trans (hb5.mono hsz)⟩
                  case measure => simp [intOf] <;> omega
  · intro i hi
    obtain rfl : i = 0 := by omega
    rfl
end Go.Proofs.Ytiiafgbdmejcpaa
