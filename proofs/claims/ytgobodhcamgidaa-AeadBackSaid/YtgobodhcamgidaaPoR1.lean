/-
  bastilleref10: P, Mod, Digits, Bytes: what each makes. Conditions: named in each theorem.
-/
import Derived.Test.YtgobodhcamgidaaRef5
import Derived.Test.YtgobodhcamgidaaPo3
set_option linter.unusedVariables false
set_option linter.unusedSimpArgs false
namespace Go.Bas
/-- the prime taken off once, if it can be. -/
def onceP (X : Int) : Int := if PP ≤ X then X - PP else X
theorem onceP_half (X : Int) (m : Nat) : onceP (2 * (X / 2 ^ (m + 1) % PP) + X / 2 ^ m % 2) = X / 2 ^ m % PP := by
  have h := half X m
  generalize X / 2 ^ (m + 1) = Y at h
  generalize X / 2 ^ m = Z at h
  unfold onceP PP
  split <;> omega
theorem onceP_bound (Y b : Int) (hb : 0 ≤ b ∧ b ≤ 1) : 0 ≤ 2 * (Y % PP) + b ∧ 2 * (Y % PP) + b < 65536 ^ 10 := by
  have h1 := Int.emod_nonneg Y (by decide : PP ≠ 0)
  have h2 := Int.emod_lt_of_pos Y (by decide : 0 < PP)
  have h3 : (2 : Int) * PP < 65536 ^ 10 := by decide
  omega
theorem PP10 : 0 ≤ PP ∧ PP < 65536 ^ 10 := by decide
theorem low_bitP (Y : Int) (b : Nat) (h : b < 16) : Y % 65536 / 2 ^ b % 2 = Y / 2 ^ b % 2 := by
  have hp : (0 : Int) < 2 ^ b := Int.pow_pos (by decide)
  have e : (65536 : Int) = 2 ^ b * (2 ^ (15 - b) * 2) := by
    rw [← Int.pow_succ, ← Int.pow_add, show b + (15 - b + 1) = 16 by omega]; rfl
  have h1 := Int.emod_add_mul_ediv Y 65536
  rw [e] at h1 ⊢
  generalize hr : Y % (2 ^ b * (2 ^ (15 - b) * 2)) = r at h1 ⊢
  generalize Y / (2 ^ b * (2 ^ (15 - b) * 2)) = q at h1
  rw [← h1, Int.mul_assoc, Int.mul_comm (2 ^ b), Int.add_mul_ediv_right _ _ (by omega), Int.mul_comm (2 ^ (15 - b)), Int.mul_assoc, Int.add_mul_emod_self_left]
theorem mod_halfP (X : Int) (m b : Nat) (h : b < 16) : onceP (2 * (X / 65536 ^ m / 2 ^ (b + 1) % PP) + dg 65536 X m / ((2 ^ b : Nat) : Int) % 2) = X / 65536 ^ m / 2 ^ b % PP := by
  have h1 := onceP_half (X / 65536 ^ m) b
  rw [← low_bitP (X / 65536 ^ m) b h] at h1
  rw [← h1]
  unfold dg
  rw [show (((2 : Nat) ^ b : Nat) : Int) = (2 : Int) ^ b by simp]
theorem pow_even256 (j : Nat) : (256 : Int) ^ (2 * j) = 65536 ^ j := by rw [Int.pow_mul]; rfl
theorem half_boundP {X : Int} {n : Nat} (hX : 0 ≤ X ∧ X < 256 ^ n) : 0 ≤ X ∧ X < 65536 ^ ((n + 1) / 2) := by
  refine ⟨hX.1, Int.lt_of_lt_of_le hX.2 ?_⟩
  rw [← pow_even256]
  exact pow_mono 256 (by decide) _ _ (by omega)
theorem dg_highP {X : Int} {n j : Nat} (hX : 0 ≤ X ∧ X < 256 ^ n) (h : n ≤ j) : dg 256 X j = 0 :=
  dg_small ⟨hX.1, Int.lt_of_lt_of_le hX.2 (pow_mono 256 (by decide) n j h)⟩
end Go.Bas
namespace Go.Proofs.Ytgobodhcamgidaa
open Go.RowKit Go.Bas
attribute [local go_sem ↓] Go.wp_at_zero Go.wp_at_succ

theorem PP_cells (i : Nat) (h : i < 10) : (#[.int .i64 65531, .int .i64 65535, .int .i64 65535, .int .i64 65535, .int .i64 65535, .int .i64 65535, .int .i64 65535, .int .i64 65535, .int .i64 3, .int .i64 0] : Array Value)[i]? = some (.int .i64 (dg 65536 PP i)) := by
  rcases (by omega : i = 0 ∨ i = 1 ∨ i = 2 ∨ i = 3 ∨ i = 4 ∨ i = 5 ∨ i = 6 ∨ i = 7 ∨ i = 8 ∨ i = 9) with rfl | rfl | rfl | rfl | rfl | rfl | rfl | rfl | rfl | rfl <;> (refine congrArg some (congrArg (Value.int .i64) ?_); decide)

set_option maxRecDepth 100000 in
set_option maxHeartbeats 800000 in
theorem rP_any (w : World) :
    Calls Try.prog 113 #[] w fun e w' => ∃ v, e = .returned v ∧ Rd .i64 w' v 10 (dg 65536 PP) ∧ Below w.heap.size w w' := by
  go_enter Try.func113, Try.ntmps113
  go_wp2
  go_ret
  exact ⟨_, rfl, (Own.new .i64 3 w _ 10 (dg 65536 PP) (Nat.le_refl _) (by decide) rfl PP_cells).rd, (Below.refl _ _).alloc (Nat.le_refl _) _⟩

set_option maxRecDepth 100000 in
set_option maxHeartbeats 3200000 in
theorem rModP_any (v : Value) (X : Int) (n : Nat) (hn : n ≤ 1000) (hX : 0 ≤ X ∧ X < 65536 ^ n) (w : World) (hv : Rd .i64 w v n (dg 65536 X)) :
    Calls Try.prog 94 #[v] w fun e w' =>
      ∃ v, e = .returned v ∧ Rd .i64 w' v 10 (dg 65536 (X % PP)) ∧ Below w.heap.size w w' := by
  have HV := Lib.hid hv
  obtain ⟨a1, c1, rfl, l1, m1, z1, h1⟩ := hv
  have H1 := Lib.hid h1
  have HX := Lib.hid hX
  clear z1 h1 hX
  go_enter Try.func94, Try.ntmps94
  go_wp2_with (refine make_ints rfl _ _ 44 rfl w.heap.size 3 .i64 8 Try.underlying44 Try.info3 .i64 .i64 10 rfl rfl (by decide) (by decide) (Nat.le_refl _) ?_; intro w3 hown3 hgrow3)
  have hb3 : Below w.heap.size w w3 := below_grown0 (Below.refl _ _) hgrow3 (Nat.le_refl _)
  clear hgrow3
  go_loopw [3, 4] (fun r i wr => ∃ k : Nat, k ≤ n ∧ i = .int .i64 ((k : Int) - 1) ∧ Own .i64 3 w.heap.size wr r 10 (dg 65536 (X / 65536 ^ k % PP)) ∧ Below w.heap.size w wr) (fun _ i _ => (intOf i + 1).toNat)
  case atStart => exact ⟨n, Nat.le_refl _, rfl, hown3.congr (fun i _ => by rw [Int.ediv_eq_zero_of_lt HX.out.1 HX.out.2]; simp [dg]), hb3⟩
  case round =>
    obtain ⟨k, hk, rfl, ho, hbel⟩ := hrel
    obtain _ | m := k
    · have HR := Lib.hid ho.rd
      clear ho
      go_wp2
      go_ret
      exact ⟨_, rfl, by have := HR.out; rwa [Int.pow_zero, Int.ediv_one] at this, hbel⟩
    · have HO := Lib.hid ho
      have HB := Lib.hid hbel
      clear ho hbel
      go_wp2
      go_loopw [3, 5] (fun r x wr => ∃ b : Nat, b ≤ 16 ∧ x = .int .i64 ((2 ^ b / 2 : Nat) : Int) ∧ Own .i64 3 w.heap.size wr r 10 (dg 65536 (X / 65536 ^ m / 2 ^ b % PP)) ∧ Below w.heap.size w wr) (fun _ x _ => (intOf x).toNat)
      case atStart => exact ⟨16, Nat.le_refl _, rfl, by rw [show (2 : Int) ^ 16 = 65536 from rfl, ← div_succ (by decide)]; exact HO.out, HB.out⟩
      case round =>
        obtain ⟨b, hb, rfl, ho, hbel⟩ := hrel
        have HO2 := Lib.hid ho
        clear ho
        obtain _ | b' := b
        · go_wp2
          go_roundw
          case rel => exact ⟨m, by omega, by go_num, by have := HO2.out; rwa [Int.pow_zero, Int.ediv_one] at this, hbel⟩
          case measure => simp [intOf] <;> omega
        · have hd2 : (2 ^ (b' + 1) / 2 : Nat) = 2 ^ b' := by rw [Nat.pow_succ]; omega
          rw [hd2]
          obtain ⟨D, hD⟩ : ∃ D : Nat, D = 2 ^ b' := ⟨_, rfl⟩
          have hD0 : 0 < D := by rw [hD]; exact Nat.pow_pos (by decide)
          have hD1 : D ≤ 32768 := by rw [hD]; exact Nat.pow_le_pow_right (by decide) (by omega : b' ≤ 15)
          rw [← hD]
          have HDD := Lib.hid hD
          clear hD hd2
          obtain ⟨b1, o1, rfl, s1, e1⟩ := H1.out (by omega)
          have c1 := (hbel.cell (p := ⟨b1, o1 + m, none⟩) s1).trans (e1 m (by omega))
          have hkm : ((m + 1 : Nat) : Int) - 1 = (m : Int) := by omega
          rw [hkm]
          clear e1
          obtain ⟨x0, x1⟩ := dg_bound (by decide : (0 : Int) < 65536) X m
          obtain ⟨q, hq⟩ : ∃ q, q = (dg 65536 X m).tdiv (D : Int) := ⟨_, rfl⟩
          have hqe : q = dg 65536 X m / D := by rw [hq, Int.tdiv_eq_ediv_of_nonneg x0]
          have q0 : 0 ≤ q := by rw [hqe]; exact Int.ediv_nonneg x0 (by omega)
          have q1 : q < 65536 := by rw [hqe]; exact Int.lt_of_le_of_lt (Int.ediv_le_self _ x0) x1
          have hq' := hq.symm
          have HQE := Lib.hid hqe
          clear hq hqe
          obtain ⟨g, cc, rfl, hg0, hgl, hc17, hcc, hcell, hfree⟩ := HO2.out.form (by decide)
          clear hcell hfree
          obtain ⟨R, hR⟩ : ∃ R, R = X / 65536 ^ m / 2 ^ (b' + 1) % PP := ⟨_, rfl⟩
          rw [← hR] at HO2
          have HRR := Lib.hid hR
          have HBB := Lib.hid hbel
          clear hR hbel
          obtain ⟨c, hc⟩ : ∃ c, c = q % 2 := ⟨_, rfl⟩
          have c0 : 0 ≤ c ∧ c ≤ 1 := by omega
          have hc' := hc.symm
          have HCE := Lib.hid hc
          clear hc
          go_wp2
          go_loopw [6, 7] (fun x i wr => ∃ (k : Nat) (z : Int), k ≤ 10 ∧ z = car2 R c k ∧ 0 ≤ z ∧ z ≤ 1 ∧ x = .int .i64 z ∧ i = .int .i64 k ∧ Own .i64 3 w.heap.size wr (.slice (some ⟨g, 0, none⟩) 10 cc) 10 (upto k (dg 65536 (2 * R + c)) (dg 65536 R)) ∧ Below w.heap.size w wr) (fun _ i _ => 10 - (intOf i).toNat)
          case atStart => exact ⟨0, c, Nat.zero_le _, (car2_zero _ _).symm, c0.1, c0.2, by rw [hc'], rfl, by rw [upto_zero]; exact HO2.out, HBB.out⟩
          case round =>
            obtain ⟨k, z, hk, hz, z0, z1, rfl, rfl, ho, hbel⟩ := hrel
            have HZ := Lib.hid hz
            clear hz
            by_cases hkt : k < 10
            · obtain ⟨g', cc', he, _, _, _, _, hcell, hfree⟩ := ho.form (by decide)
              simp only [Value.slice.injEq, Option.some.injEq, Addr.mk.injEq] at he
              obtain ⟨⟨rfl, _⟩, _⟩ := he
              have e1 := hcell k hkt
              have f1 := hfree k
              rw [upto_at] at e1
              obtain ⟨x0, x1⟩ := dg_bound (by decide : (0 : Int) < 65536) R k
              have hst := car2_step' R c k
              rw [← HZ.out] at hst
              have HST := Lib.hid hst
              have HO3 := Lib.hid ho
              clear ho hst hcell hfree
              go_wp2
              go_roundw
              case rel => exact ⟨k + 1, _, by omega, HST.out.2, by omega, by omega, rfl, by go_num, by rw [← upto_step HST.out.1]; exact HO3.out.store k _, hbel.setCell hg0 _⟩
              case measure => simp [intOf] <;> omega
            · obtain rfl : k = 10 := by omega
              have ho3 := ho.congr (upto_full _ _ (Nat.le_refl _))
              have HO3 := Lib.hid ho3
              clear ho ho3
              have hbnd : 0 ≤ 2 * R + c ∧ 2 * R + c < 65536 ^ 10 := by rw [HRR.out]; exact onceP_bound _ _ c0
              have HBND := Lib.hid hbnd
              have hfin : onceP (2 * R + c) = X / 65536 ^ m / 2 ^ b' % PP := by rw [HRR.out, HCE.out, HQE.out, HDD.out]; exact mod_halfP X m b' (by omega)
              have HFIN := Lib.hid hfin
              have hsz := hbel.size
              clear hbnd hfin
              go_wp2_with fail
              refine (rP_any wr).mono ?_
              rintro e w4 ⟨v', rfl, hq, hb4⟩
              have hbel4 := hbel.trans (hb4.mono hsz)
              have HQ := Lib.hid hq
              have HO4 := Lib.hid (HO3.out.below hb4)
              have hsz4 := hbel4.size
              clear hq hb4 hbel HO3
              have hcon := rAtLeast_any _ v' (2 * R + c) PP 10 10 (Nat.le_refl _) w4 HO4.out.rd HQ.out HBND.out PP10
              by_cases hge : PP ≤ 2 * R + c
              · rw [decide_eq_true hge] at hcon
                have hon : onceP (2 * R + c) = 2 * R + c - PP := by unfold onceP; rw [if_pos hge]
                rw [HFIN.out] at hon
                have HON := Lib.hid hon
                have HCON := Lib.hid hcon
                clear hon hge hcon
                go_wp2_with fail
                refine (HCON.out).mono ?_
                rintro e w5 ⟨rfl, hb5⟩
                have hbel5 := hbel4.trans (hb5.mono hsz4)
                have HO5 := Lib.hid (HO4.out.below hb5)
                have hsz5 := hbel5.size
                clear hb5 hbel4 HO4 HQ
                go_wp2_with fail
                refine (rP_any w5).mono ?_
                rintro e w6 ⟨v6, rfl, hq6, hb6⟩
                have HQ6 := Lib.hid hq6
                have hbel6 := hbel5.trans (hb6.mono hsz5)
                have HO6 := Lib.hid (HO5.out.below hb6)
                have hsz6 := hbel6.size
                clear hq6 hb6 hbel5 HO5
                go_wp2_with fail
                refine (rLess_any _ v6 (2 * R + c) PP 10 10 (Nat.le_refl _) (by decide) w6 HO6.out.rd HQ6.out).mono ?_
                rintro e w7 ⟨v7, rfl, ho7, hb7⟩
                have HO7 := Lib.hid ho7
                clear ho7
                go_wp2
                go_roundw
                case rel => exact ⟨b', by omega, by rw [← HDD.out]; rfl, by rw [HON.out]; exact HO7.out.mono hsz6, hbel6.trans (hb7.mono hsz6)⟩
                case measure => simp [intOf] <;> omega
              · rw [decide_eq_false hge] at hcon
                have hon : onceP (2 * R + c) = 2 * R + c := by unfold onceP; rw [if_neg hge]
                rw [HFIN.out] at hon
                have HON := Lib.hid hon
                have HCON := Lib.hid hcon
                clear hon hge hcon
                go_wp2_with fail
                refine (HCON.out).mono ?_
                rintro e w5 ⟨rfl, hb5⟩
                go_wp2
                go_roundw
                case rel => exact ⟨b', by omega, by rw [← HDD.out]; rfl, by rw [HON.out]; exact HO4.out.below hb5, hbel4.trans (hb5.mono hsz4)⟩
                case measure => simp [intOf] <;> omega

set_option maxRecDepth 100000 in
set_option maxHeartbeats 1600000 in
theorem rDigitsP_any (v : Value) (X : Int) (n : Nat) (hn : n ≤ 1000) (hX : 0 ≤ X ∧ X < 256 ^ n) (w : World) (hv : Rd .u8 w v n (dg 256 X)) :
    Calls Try.prog 95 #[v] w fun e w' =>
      ∃ v, e = .returned v ∧ Own .i64 3 w.heap.size w' v ((n + 1) / 2) (dg 65536 X) ∧ Below w.heap.size w w' := by
  obtain ⟨a1, c1, rfl, l1, m1, z1, h1⟩ := hv
  have H1 := Lib.hid h1
  have HX := Lib.hid hX
  clear z1 h1 hX
  go_enter Try.func95, Try.ntmps95
  go_wp2
  go_loopw [3, 4] (fun v i wr => ∃ j : Nat, j ≤ (n + 1) / 2 ∧ i = .int .i64 (2 * j : Nat) ∧ Own .i64 3 w.heap.size wr v j (dg 65536 X) ∧ Below w.heap.size w wr) (fun _ i _ => n + 1 - (intOf i).toNat)
  case atStart => exact ⟨0, Nat.zero_le _, rfl, Own.nil _ _ _ _ _, Below.refl _ _⟩
  case round =>
    obtain ⟨j, hj, rfl, ho, hbel⟩ := hrel
    have HO := Lib.hid ho
    have hsz := hbel.size
    clear ho
    by_cases hlt : 2 * j < n
    · obtain ⟨b, off, rfl, s1, hcell⟩ := H1.out (by omega)
      have e0 := (hbel.cell (p := ⟨b, off + 2 * j, none⟩) s1).trans (hcell (2 * j) hlt)
      obtain ⟨p0, p0'⟩ := dg_bound (by decide : (0 : Int) < 256) X (2 * j)
      obtain ⟨p1, p1'⟩ := dg_bound (by decide : (0 : Int) < 256) X (2 * j + 1)
      have hp := pair16 X j
      have HP : Hid (dg 256 X (2 * j) + 256 * dg 256 X (2 * j + 1) = dg 65536 X j) := by unfold Hid; omega
      clear hp
      by_cases hlt2 : 2 * j + 1 < n
      · have e1 := (hbel.cell (p := ⟨b, off + (2 * j + 1), none⟩) s1).trans (hcell (2 * j + 1) hlt2)
        clear hcell
        go_wp2_with (at_builtin; refine append_new rfl _ _ 44 rfl w.heap.size 3 .i64 8 Try.underlying44 Try.info3 _ j (dg 65536 X) _ _ rfl HO.out rfl 1 rfl rfl ?_ (by omega) (by omega) (by omega) ?_; rotate_right; intro v' w1 hown hgrow)
        · go_roundw
          case rel => exact ⟨j + 1, by omega, by go_num, hown, below_grown (hbel.alloc hsz _) hgrow HO.out (by simp; omega) (by omega)⟩
          case measure => simp [intOf] <;> omega
        · intro i hi
          exact one0 hi (by rw [show j + i = j by omega]; exact HP.out)
      · have hz : Hid (dg 256 X (2 * j + 1) = 0) := dg_highP HX.out (by omega)
        clear hcell
        go_wp2_with (at_builtin; refine append_new rfl _ _ 44 rfl w.heap.size 3 .i64 8 Try.underlying44 Try.info3 _ j (dg 65536 X) _ _ rfl HO.out rfl 1 rfl rfl ?_ (by omega) (by omega) (by omega) ?_; rotate_right; intro v' w1 hown hgrow)
        · go_roundw
          case rel => exact ⟨j + 1, by omega, by go_num, hown, below_grown (hbel.alloc hsz _) hgrow HO.out (by simp; omega) (by omega)⟩
          case measure => simp [intOf] <;> omega
        · intro i hi
          exact one0 hi (by rw [show j + i = j by omega]; have := HP.out; have := hz.out; omega)
    · obtain rfl : j = (n + 1) / 2 := by omega
      go_wp2
      go_ret
      exact ⟨_, rfl, HO.out, hbel⟩
end Go.Proofs.Ytgobodhcamgidaa
