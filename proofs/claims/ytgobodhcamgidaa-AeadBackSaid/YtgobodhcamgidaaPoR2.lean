/-
  bastilleref10.Bytes, Add, Mul, Clamp: what each makes. Conditions: named in each theorem.
-/
import Derived.Test.YtgobodhcamgidaaPoR1
set_option linter.unusedVariables false
set_option linter.unusedSimpArgs false
namespace Go.Proofs.Ytgobodhcamgidaa
open Go.RowKit Go.Bas
attribute [local go_sem ↓] Go.wp_at_zero Go.wp_at_succ

set_option maxRecDepth 100000 in
set_option maxHeartbeats 1600000 in
theorem rAddP_any (va vb : Value) (A B : Int) (w : World) (ha : Rd .i64 w va 10 (dg 65536 A)) (hb : Rd .i64 w vb 10 (dg 65536 B)) (hS : 0 ≤ A + B ∧ A + B < 65536 ^ 10) :
    Calls Try.prog 98 #[va, vb] w fun e w' =>
      ∃ v, e = .returned v ∧ Rd .i64 w' v 10 (dg 65536 ((A + B) % PP)) ∧ Below w.heap.size w w' := by
  obtain ⟨xa, xc, rfl, xl, xm, xz, xh⟩ := ha
  obtain ⟨ya, yc, rfl, yl, ym, yz, yh⟩ := hb
  obtain ⟨xb, xo, rfl, xs, xe⟩ := xh (by decide)
  obtain ⟨yb, yo, rfl, ys, ye⟩ := yh (by decide)
  have XE := Lib.hid xe
  have YE := Lib.hid ye
  have HT := Lib.hid hS
  clear xz yz xe ye xh yh hS
  go_enter Try.func98, Try.ntmps98
  go_wp2
  go_loopw [5, 6, 7] (fun v c i wr => ∃ (k : Nat) (z : Int), k ≤ 10 ∧ z = carS A B k ∧ 0 ≤ z ∧ z ≤ 1 ∧ c = .int .i64 z ∧ i = .int .i64 k ∧ Own .i64 3 w.heap.size wr v k (dg 65536 (A + B)) ∧ Below w.heap.size w wr) (fun _ _ i _ => 10 - (intOf i).toNat)
  case atStart => exact ⟨0, 0, Nat.zero_le _, (carS_zero _ _).symm, by decide, by decide, rfl, rfl, Own.nil _ _ _ _ _, Below.refl _ _⟩
  case round =>
    obtain ⟨k, z, hk, hz, z0, z1, rfl, rfl, ho, hbel⟩ := hrel
    have HZ := Lib.hid hz
    have HO := Lib.hid ho
    clear hz ho
    have hsz := hbel.size
    by_cases hlt : k < 10
    · have c1 := (hbel.cell (p := ⟨xb, xo + k, none⟩) xs).trans (XE.out k hlt)
      have c2 := (hbel.cell (p := ⟨yb, yo + k, none⟩) ys).trans (YE.out k hlt)
      obtain ⟨x0, x1⟩ := dg_bound (by decide : (0 : Int) < 65536) A k
      obtain ⟨y0, y1⟩ := dg_bound (by decide : (0 : Int) < 65536) B k
      have u1 := wrap_i64_id (x := dg 65536 A k + dg 65536 B k) (by omega) (by omega)
      have u2 := wrap_i64_id (x := dg 65536 A k + dg 65536 B k + z) (by omega) (by omega)
      have hst := carS_step A B k
      rw [← HZ.out] at hst
      have HST := Lib.hid hst
      clear hst
      go_wp2
      go_quiet (fail)
      clear u1 u2
      go_wp2_with (at_builtin; refine append_new rfl _ _ 44 rfl w.heap.size 3 .i64 8 Try.underlying44 Try.info3 _ k (dg 65536 (A + B)) _ _ rfl (HO.out.drewN _) rfl 1 rfl rfl ?_ (by omega) (by omega) hsz ?_; rotate_right; intro v' w1 hown hgrow)
      · go_roundw
        case rel => exact ⟨k + 1, _, by omega, HST.out.2, by omega, by omega, rfl, by go_num, hown, below_grown ((below_drewN hbel _).alloc hsz _) hgrow HO.out (by simp; omega) (Nat.le_refl _)⟩
        case measure => simp [intOf] <;> omega
      · intro i hi
        exact one0 hi (by rw [show k + i = k by omega]; exact HST.out.1)
    · obtain rfl : k = 10 := by omega
      go_wp2_with fail
      refine (rModP_any _ (A + B) 10 (by omega) HT.out _ HO.out.rd).mono ?_
      rintro e w6 ⟨v6, rfl, hv6, hb6⟩
      have HV6 := Lib.hid hv6
      clear hv6
      go_wp2
      go_ret
      exact ⟨_, rfl, HV6.out, hbel.trans (hb6.mono hsz)⟩

set_option maxRecDepth 100000 in
set_option maxHeartbeats 25600000 in
theorem rMulP_any (va vb : Value) (A B : Int) (w : World) (ha : Rd .i64 w va 10 (dg 65536 A)) (hb : Rd .i64 w vb 10 (dg 65536 B)) (hA : 0 ≤ A ∧ A < 65536 ^ 10) (hB : 0 ≤ B ∧ B < 65536 ^ 10) :
    Calls Try.prog 97 #[va, vb] w fun e w' =>
      ∃ v, e = .returned v ∧ Rd .i64 w' v 10 (dg 65536 (A * B % PP)) ∧ Below w.heap.size w w' := by
  obtain ⟨xa, xc, rfl, xl, xm, xz, xh⟩ := ha
  obtain ⟨ya, yc, rfl, yl, ym, yz, yh⟩ := hb
  obtain ⟨xb, xo, rfl, xs, xe⟩ := xh (by decide)
  obtain ⟨yb, yo, rfl, ys, ye⟩ := yh (by decide)
  have XE := Lib.hid xe
  have YE := Lib.hid ye
  have HA := Lib.hid hA
  have HB := Lib.hid hB
  clear xz yz xe ye xh yh hA hB
  go_enter Try.func97, Try.ntmps97
  go_wp2_with (refine make_ints rfl _ _ 44 rfl w.heap.size 3 .i64 8 Try.underlying44 Try.info3 .i64 .i64 20 rfl rfl (by decide) (by decide) (Nat.le_refl _) ?_; intro w4 hown hgrow)
  have hb4 : Below w.heap.size w w4 := below_grown0 (Below.refl _ _) hgrow (Nat.le_refl _)
  clear hgrow
  go_loopw [6] (fun i wr => ∃ (k : Nat) (t : Nat → Int), k ≤ 10 ∧ i = .int .i64 k ∧ MulInv 10 10 A B t k 0 0 ∧ Own .i64 3 w.heap.size wr (.slice (some ⟨w.heap.size, 0, none⟩) 20 20) 20 t ∧ Below w.heap.size w wr) (fun i _ => 10 - (intOf i).toNat)
  case atStart => exact ⟨0, _, Nat.zero_le _, rfl, MulInv.zero _ _ _ _, hown, hb4⟩
  case round =>
    obtain ⟨i, t, hi, rfl, hM, ho, hbel⟩ := hrel
    have HM := Lib.hid hM
    have HO := Lib.hid ho
    clear hM ho
    by_cases hlt : i < 10
    · have HBel := Lib.hid hbel
      clear hbel
      go_wp2
      go_loopw [7, 8] (fun c j wr => ∃ (k : Nat) (z : Int) (t : Nat → Int), k ≤ 10 ∧ 0 ≤ z ∧ z < 65536 ∧ c = .int .i64 z ∧ j = .int .i64 k ∧ MulInv 10 10 A B t i k z ∧ Own .i64 3 w.heap.size wr (.slice (some ⟨w.heap.size, 0, none⟩) 20 20) 20 t ∧ Below w.heap.size w wr) (fun _ j _ => 10 - (intOf j).toNat)
      case atStart => exact ⟨0, 0, t, Nat.zero_le _, by decide, by decide, rfl, rfl, HM.out, HO.out, HBel.out⟩
      case round =>
        clear HM HO HBel
        obtain ⟨k, z, t, hk, z0, z1, rfl, rfl, hM, ho, hbel⟩ := hrel
        have HM := Lib.hid hM
        have HO := Lib.hid ho
        clear hM ho
        obtain ⟨g', cc', he, _, _, _, _, hcell, hfree⟩ := HO.out.form (by decide)
        simp only [Value.slice.injEq, Option.some.injEq, Addr.mk.injEq] at he
        obtain ⟨⟨rfl, q1⟩, q2⟩ := he
        clear q1 q2
        by_cases hkt : k < 10
        · have e1 := hcell (i + k) (by omega)
          have f1 := hfree (i + k)
          have c1 := (hbel.cell (p := ⟨xb, xo + i, none⟩) xs).trans (XE.out i hlt)
          have c2 := (hbel.cell (p := ⟨yb, yo + k, none⟩) ys).trans (YE.out k hkt)
          obtain ⟨m0, m1, m2, m3, m4, m5⟩ := HM.out.bound
          have HST := Lib.hid (HM.out.step hlt hkt)
          have HST2 := Lib.hid (HST.out.2.2)
          have t0 := (HM.out.1 (i + k)).1
          have t1 := (HM.out.1 (i + k)).2
          obtain ⟨x0, x1⟩ := dg_bound (by decide : (0 : Int) < 65536) A i
          obtain ⟨y0, y1⟩ := dg_bound (by decide : (0 : Int) < 65536) B k
          clear hcell hfree
          have i0 : (0 : Int) ≤ (i : Int) + k := by omega
          have i1 : (i : Int) + k < 20 := by omega
          have i2 : ((i : Int) + k).toNat = i + k := by omega
          have u0 := wrap_i64_id (x := (i : Int) + k) (by omega) (by omega)
          have u1 := wrap_i64_id (x := dg 65536 A i * dg 65536 B k) (by omega) (by omega)
          have u2 := wrap_i64_id (x := t (i + k) + dg 65536 A i * dg 65536 B k) (by omega) (by omega)
          have u3 := wrap_i64_id (x := t (i + k) + dg 65536 A i * dg 65536 B k + z) (by omega) (by omega)
          go_wp2
          go_quiet (fail)
          clear u1 u2 u3 u0
          go_wp2
          go_roundw
          case rel => exact ⟨k + 1, _, _, by omega, HST2.out.1, HST2.out.2.1, rfl, by go_num, HST.out, (HO.out.drewN _).store (i + k) _, (below_drewN hbel _).setCell (Nat.le_refl _) _⟩
          case measure => simp [intOf] <;> omega
        · obtain rfl : k = 10 := by omega
          obtain ⟨r0, r1⟩ := HM.out.row hlt HB.out
          have R0 := Lib.hid r0
          have R1 := Lib.hid r1
          have e1 := hcell (i + 10) (by omega)
          have f1 := hfree (i + 10)
          rw [R0.out] at e1
          clear hcell hfree r0 r1
          go_wp2
          go_roundw
          case rel => exact ⟨i + 1, _, by omega, by go_num, R1.out, by rw [R0.out]; have := HO.out.store (i + 10) z; rwa [show (0 : Int) + z = z by omega], hbel.setCell (Nat.le_refl _) _⟩
          case measure => simp [intOf] <;> omega
    · obtain rfl : i = 10 := by omega
      have hr := (HO.out.congr (HM.out.done HA.out)).rd
      have HR := Lib.hid hr
      have hs := hbel.size
      clear hr
      go_wp2_with fail
      refine (rModP_any _ (A * B) 20 (by omega) (mul_bound HA.out HB.out) _ HR.out).mono ?_
      rintro e w6 ⟨v6, rfl, hv6, hb6⟩
      have HV6 := Lib.hid hv6
      clear hv6
      go_wp2
      go_ret
      exact ⟨_, rfl, HV6.out, hbel.trans (hb6.mono hs)⟩
end Go.Proofs.Ytgobodhcamgidaa
