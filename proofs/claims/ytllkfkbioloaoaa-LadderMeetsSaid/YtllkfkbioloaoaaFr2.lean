/-
  bastilleref04: Of, Add, Sub, Mul, Same, Zero: what each makes. Conditions: named in each theorem.
-/
import Derived.Test.YtllkfkbioloaoaaFr1
import Derived.Test.YtllkfkbioloaoaaElem
set_option linter.unusedVariables false
set_option linter.unusedSimpArgs false
namespace Go.Proofs.Ytllkfkbioloaoaa
open Go.RowKit Go.Bas
attribute [local go_sem ↓] Go.wp_at_zero Go.wp_at_succ

set_option maxRecDepth 100000 in
set_option maxHeartbeats 1600000 in
theorem fOf_any (X : Int) (w : World) :
    Calls Try.prog 83 #[.agg (arr .u8 32 (dg 256 X))] w fun e w' =>
      ∃ v, e = .returned v ∧ Own .i64 3 w.heap.size w' v 16 (dg 65536 (X % 2 ^ 255 % Pr)) ∧ Below w.heap.size w w' := by
  go_enter Try.func83, Try.ntmps83
  go_wp2_with (refine load_arr rfl 88 _ rfl .u8 w.heap.size 32 _ 5 Try.underlying88 Try.size88 rfl (Arr.new .u8 w 88 32 (dg 256 X)) ?_)
  refine (rDigits_any X _).mono ?_
  rintro e w1 ⟨x, rfl, hx, hb1⟩
  have hs1 : w.heap.size + 1 ≤ w1.heap.size := by have := hb1.size; simpa using this
  have hb2 : Below w.heap.size w w1 := ((Below.refl _ _).alloc (Nat.le_refl _) _).trans (hb1.mono (by simp))
  obtain ⟨g, c, rfl, hg0, hgl, hc, hcc, hcell, hfree⟩ := hx.form (by decide)
  have e15 := hcell 15 (by decide)
  have f15 := hfree 15
  obtain ⟨x0, x1⟩ := dg_bound (by decide : (0 : Int) < 65536) X 15
  have HX := Lib.hid hx
  have hg1 : w.heap.size ≤ g := by simp at hg0; omega
  clear hx hb1 hcell hfree hg0
  go_wp2_with fail
  refine (fMod_any _ (X % 2 ^ 255) 16 (by decide) (mod255 X) _ ((HX.out.store 15 _).rd.congr (fun i hi => ?_))).mono ?_
  · exact top_bit X i hi
  rintro e w2 ⟨v, rfl, hv, hb3⟩
  have hb4 := hb2.setCell (p := ⟨g, 15, none⟩) hg1 (.int .i64 (dg 65536 X 15 % 32768))
  have HV := Lib.hid (hv.mono (base' := w.heap.size) (by simp [size_setCell]; omega))
  have HB := Lib.hid (hb4.trans (hb3.mono (by simp [size_setCell]; omega)))
  clear hv hb3 hb4 hb2
  go_wp2
  go_ret
  exact ⟨_, rfl, HV.out, HB.out⟩

theorem carS_top16 {A B : Int} (hA : 0 ≤ A ∧ A < 65536 ^ 16) (hB : 0 ≤ B ∧ B < 65536 ^ 16) : carS A B 16 = dg 65536 (A + B) 16 ∧ 0 ≤ A + B ∧ A + B < 65536 ^ 17 := by
  have h2 : (65536 : Int) ^ 17 = 65536 * 65536 ^ 16 := by decide
  refine ⟨?_, by omega, by omega⟩
  unfold carS dg
  rw [Int.ediv_eq_zero_of_lt hA.1 hA.2, Int.ediv_eq_zero_of_lt hB.1 hB.2]
  have h3 : (A + B) / 65536 ^ 16 < 65536 := Int.ediv_lt_of_lt_mul (by decide) (by omega)
  have h4 : 0 ≤ (A + B) / 65536 ^ 16 := Int.ediv_nonneg (by omega) (by decide)
  omega

set_option maxRecDepth 100000 in
set_option maxHeartbeats 1600000 in
theorem fAdd_any (va vb : Value) (A B : Int) (hA : 0 ≤ A ∧ A < 65536 ^ 16) (hB : 0 ≤ B ∧ B < 65536 ^ 16) (w : World) (ha : Rd .i64 w va 16 (dg 65536 A)) (hb : Rd .i64 w vb 16 (dg 65536 B)) :
    Calls Try.prog 85 #[va, vb] w fun e w' =>
      ∃ v, e = .returned v ∧ Own .i64 3 w.heap.size w' v 16 (dg 65536 ((A + B) % Pr)) ∧ Below w.heap.size w w' := by
  have HT := Lib.hid (carS_top16 hA hB)
  obtain ⟨xa, xc, rfl, xl, xm, xz, xh⟩ := ha
  obtain ⟨ya, yc, rfl, yl, ym, yz, yh⟩ := hb
  obtain ⟨xb, xo, rfl, xs, xe⟩ := xh (by decide)
  obtain ⟨yb, yo, rfl, ys, ye⟩ := yh (by decide)
  have XE := Lib.hid xe
  have YE := Lib.hid ye
  clear xz yz xe ye xh yh hA hB
  go_enter Try.func85, Try.ntmps85
  go_wp2
  go_loopw [5, 6, 7] (fun v c i wr => ∃ (k : Nat) (z : Int), k ≤ 16 ∧ z = carS A B k ∧ 0 ≤ z ∧ z ≤ 1 ∧ c = .int .i64 z ∧ i = .int .i64 k ∧ Own .i64 3 w.heap.size wr v k (dg 65536 (A + B)) ∧ Below w.heap.size w wr) (fun _ _ i _ => 16 - (intOf i).toNat)
  case atStart => exact ⟨0, 0, Nat.zero_le _, (carS_zero _ _).symm, by decide, by decide, rfl, rfl, Own.nil _ _ _ _ _, Below.refl _ _⟩
  case round =>
    obtain ⟨k, z, hk, hz, z0, z1, rfl, rfl, ho, hbel⟩ := hrel
    have HZ := Lib.hid hz
    have HO := Lib.hid ho
    clear hz ho
    have hsz := hbel.size
    by_cases hlt : k < 16
    · have c1 := (hbel.cell (p := ⟨xb, xo + k, none⟩) xs).trans (XE.out k hlt)
      have c2 := (hbel.cell (p := ⟨yb, yo + k, none⟩) ys).trans (YE.out k hlt)
      obtain ⟨x0, x1⟩ := dg_bound (by decide : (0 : Int) < 65536) A k
      obtain ⟨y0, y1⟩ := dg_bound (by decide : (0 : Int) < 65536) B k
      have u1 := wrap_i64_id (x := dg 65536 A k + dg 65536 B k) (by omega) (by omega)
      have u2 := wrap_i64_id (x := dg 65536 A k + dg 65536 B k + z) (by omega) (by omega)
      have hst := carS_step A B k
      rw [← HZ.out] at hst
      have HST := Lib.hid hst
      clear hst
      go_wp2
      go_quiet (fail)
      clear u1 u2
      go_wp2_with (at_builtin; refine append_new rfl _ _ 56 rfl w.heap.size 3 .i64 8 Try.underlying56 Try.info3 _ k (dg 65536 (A + B)) _ _ rfl (HO.out.drewN _) rfl 1 rfl rfl ?_ (by omega) (by omega) hsz ?_; rotate_right; intro v' w1 hown hgrow)
      · go_roundw
        case rel => exact ⟨k + 1, _, by omega, HST.out.2, by omega, by omega, rfl, by go_num, hown, below_grown ((below_drewN hbel _).alloc hsz _) hgrow HO.out (by simp; omega) (Nat.le_refl _)⟩
        case measure => simp [intOf] <;> omega
      · intro i hi
        exact one0 hi (by rw [show k + i = k by omega]; exact HST.out.1)
    · obtain rfl : k = 16 := by omega
      have hz16 : z = dg 65536 (A + B) 16 := HZ.out.trans HT.out.1
      have HZ16 := Lib.hid hz16
      clear hz16
      have HBel := Lib.hid hbel
      clear hbel
      go_wp2_with (at_builtin; refine append_new rfl _ _ 56 rfl w.heap.size 3 .i64 8 Try.underlying56 Try.info3 _ 16 (dg 65536 (A + B)) _ _ rfl HO.out rfl 1 rfl rfl ?_ (by omega) (by omega) hsz ?_; rotate_right; intro v' w5 hown hgrow)
      · have hb5 := below_grown (HBel.out.alloc hsz _) hgrow HO.out (by simp; omega) (Nat.le_refl _)
        have HR := Lib.hid hown.rd
        clear hown hgrow
        refine (fMod_any _ (A + B) 17 (by omega) HT.out.2 _ HR.out).mono ?_
        rintro e w6 ⟨v6, rfl, hv6, hb6⟩
        have hs5 := hb5.size
        have HV6 := Lib.hid (hv6.mono hs5)
        have HB6 := Lib.hid (hb5.trans (hb6.mono hs5))
        clear hv6 hb5 hb6
        go_wp2
        go_ret
        exact ⟨_, rfl, HV6.out, HB6.out⟩
      · intro i hi
        exact one0 hi (by rw [show 16 + i = 16 by omega]; exact HZ16.out)

set_option maxRecDepth 100000 in
set_option maxHeartbeats 1600000 in
theorem fSub_any (va vb : Value) (A B : Int) (hA : 0 ≤ A ∧ A < Pr) (hB : 0 ≤ B ∧ B < Pr) (w : World) (ha : Rd .i64 w va 16 (dg 65536 A)) (hb : Rd .i64 w vb 16 (dg 65536 B)) :
    Calls Try.prog 86 #[va, vb] w fun e w' =>
      ∃ v, e = .returned v ∧ Own .i64 3 w.heap.size w' v 16 (dg 65536 ((A - B) % Pr)) ∧ Below w.heap.size w w' := by
  have A16 : 0 ≤ A ∧ A < 65536 ^ 16 := ⟨hA.1, Int.lt_trans hA.2 Pr16.2⟩
  have B16 : 0 ≤ B ∧ B < 65536 ^ 16 := ⟨hB.1, Int.lt_trans hB.2 Pr16.2⟩
  have H1 := Lib.hid ha
  have H2 := Lib.hid hb
  have HA := Lib.hid hA
  have HB := Lib.hid hB
  have hcon := rAtLeast_any va vb A B 16 16 (Nat.le_refl _) w ha hb A16 B16
  clear ha hb hA hB A16 B16
  by_cases hge : B ≤ A
  · rw [decide_eq_true hge] at hcon
    have hs : Hid ((A - B) % Pr = A - B) := Int.emod_eq_of_lt (by omega) (by have := HA.out; have := HB.out; omega)
    have HCON := Lib.hid hcon
    clear hcon hge
    go_enter Try.func86, Try.ntmps86
    go_wp2_with fail
    refine HCON.out.mono ?_
    rintro e w1 ⟨rfl, hb1⟩
    have HB1 := Lib.hid hb1
    clear hb1
    go_wp2_with fail
    refine (rLess_any va vb A B 16 16 (Nat.le_refl _) (by decide) w1 (H1.out.below HB1.out) (H2.out.below HB1.out)).mono ?_
    rintro e w2 ⟨v, rfl, hv, hb2⟩
    have HV := Lib.hid (hv.mono HB1.out.size)
    have HB2 := Lib.hid (HB1.out.trans (hb2.mono HB1.out.size))
    clear hv hb2
    go_wp2
    go_ret
    exact ⟨_, rfl, by rw [hs.out]; exact HV.out, HB2.out⟩
  · rw [decide_eq_false hge] at hcon
    have hs : Hid ((A - B) % Pr = Pr - (B - A)) := by
      show (A - B) % Pr = Pr - (B - A)
      have := HA.out; have := HB.out
      rw [show A - B = Pr - (B - A) + Pr * (-1) by omega, Int.add_mul_emod_self_left, Int.emod_eq_of_lt (by omega) (by omega)]
    have HCON := Lib.hid hcon
    clear hcon hge
    go_enter Try.func86, Try.ntmps86
    go_wp2_with fail
    refine HCON.out.mono ?_
    rintro e w1 ⟨rfl, hb1⟩
    have HB1 := Lib.hid hb1
    clear hb1
    go_wp2_with fail
    refine (rP_any _).mono ?_
    rintro e w2 ⟨p, rfl, hp, hb2⟩
    have HP := Lib.hid hp.rd
    have HB2 := Lib.hid hb2
    clear hp hb2
    go_wp2_with fail
    refine (rLess_any vb va B A 16 16 (Nat.le_refl _) (by decide) w2 ((H2.out.below HB1.out).below HB2.out) ((H1.out.below HB1.out).below HB2.out)).mono ?_
    rintro e w3 ⟨d, rfl, hd, hb3⟩
    have HD := Lib.hid hd.rd
    have HB3 := Lib.hid hb3
    clear hd hb3
    go_wp2_with fail
    refine (rLess_any p d Pr (B - A) 16 16 (Nat.le_refl _) (by decide) w3 (HP.out.below HB3.out) HD.out).mono ?_
    rintro e w4 ⟨v, rfl, hv, hb4⟩
    have s1 := HB1.out.size
    have s2 := HB2.out.size
    have s3 := HB3.out.size
    have HV := Lib.hid (hv.mono (base' := w.heap.size) (by omega))
    have HB4 := Lib.hid (((HB1.out.trans (HB2.out.mono (by omega))).trans (HB3.out.mono (by omega))).trans (hb4.mono (by omega)))
    clear hv hb4 s1 s2 s3
    go_wp2
    go_ret
    exact ⟨_, rfl, by rw [hs.out]; exact HV.out, HB4.out⟩

set_option maxRecDepth 100000 in
set_option maxHeartbeats 6400000 in
theorem fMul_any (va vb : Value) (A B : Int) (hA : 0 ≤ A ∧ A < 65536 ^ 16) (hB : 0 ≤ B ∧ B < 65536 ^ 16) (w : World) (ha : Rd .i64 w va 16 (dg 65536 A)) (hb : Rd .i64 w vb 16 (dg 65536 B)) :
    Calls Try.prog 87 #[va, vb] w fun e w' =>
      ∃ v, e = .returned v ∧ Own .i64 3 w.heap.size w' v 16 (dg 65536 (A * B % Pr)) ∧ Below w.heap.size w w' := by
  have HA := Lib.hid hA
  have HB := Lib.hid hB
  obtain ⟨xa, xc, rfl, xl, xm, xz, xh⟩ := ha
  obtain ⟨ya, yc, rfl, yl, ym, yz, yh⟩ := hb
  obtain ⟨xb, xo, rfl, xs, xe⟩ := xh (by decide)
  obtain ⟨yb, yo, rfl, ys, ye⟩ := yh (by decide)
  have XE := Lib.hid xe
  have YE := Lib.hid ye
  clear xz yz xe ye xh yh hA hB
  go_enter Try.func87, Try.ntmps87
  go_wp2_with (refine make_ints rfl _ _ 56 rfl w.heap.size 3 .i64 8 Try.underlying56 Try.info3 .i64 .i64 32 rfl rfl (by decide) (by decide) (Nat.le_refl _) ?_; intro w4 hown hgrow)
  have hb4 : Below w.heap.size w w4 := below_grown0 (Below.refl _ _) hgrow (Nat.le_refl _)
  clear hgrow
  go_loopw [6] (fun i wr => ∃ (k : Nat) (t : Nat → Int), k ≤ 16 ∧ i = .int .i64 k ∧ MulInv 16 16 A B t k 0 0 ∧ Own .i64 3 w.heap.size wr (.slice (some ⟨w.heap.size, 0, none⟩) 32 32) 32 t ∧ Below w.heap.size w wr) (fun i _ => 16 - (intOf i).toNat)
  case atStart => exact ⟨0, _, Nat.zero_le _, rfl, MulInv.zero _ _ _ _, hown, hb4⟩
  case round =>
    obtain ⟨i, t, hi, rfl, hM, ho, hbel⟩ := hrel
    have HM := Lib.hid hM
    have HO := Lib.hid ho
    clear hM ho
    by_cases hlt : i < 16
    · have HBel := Lib.hid hbel
      clear hbel
      go_wp2
      go_loopw [7, 8] (fun c j wr => ∃ (k : Nat) (z : Int) (t : Nat → Int), k ≤ 16 ∧ 0 ≤ z ∧ z < 65536 ∧ c = .int .i64 z ∧ j = .int .i64 k ∧ MulInv 16 16 A B t i k z ∧ Own .i64 3 w.heap.size wr (.slice (some ⟨w.heap.size, 0, none⟩) 32 32) 32 t ∧ Below w.heap.size w wr) (fun _ j _ => 16 - (intOf j).toNat)
      case atStart => exact ⟨0, 0, t, Nat.zero_le _, by decide, by decide, rfl, rfl, HM.out, HO.out, HBel.out⟩
      case round =>
        clear HM HO HBel
        obtain ⟨k, z, t, hk, z0, z1, rfl, rfl, hM, ho, hbel⟩ := hrel
        have HM := Lib.hid hM
        have HO := Lib.hid ho
        clear hM ho
        obtain ⟨g', cc', he, _, _, _, _, hcell, hfree⟩ := HO.out.form (by decide)
        simp only [Value.slice.injEq, Option.some.injEq, Addr.mk.injEq] at he
        obtain ⟨⟨rfl, q1⟩, q2⟩ := he
        clear q1 q2
        by_cases hkt : k < 16
        · have e1 := hcell (i + k) (by omega)
          have f1 := hfree (i + k)
          have c1 := (hbel.cell (p := ⟨xb, xo + i, none⟩) xs).trans (XE.out i hlt)
          have c2 := (hbel.cell (p := ⟨yb, yo + k, none⟩) ys).trans (YE.out k hkt)
          obtain ⟨m0, m1, m2, m3, m4, m5⟩ := HM.out.bound
          have HST := Lib.hid (HM.out.step hlt hkt)
          have HST2 := Lib.hid (HST.out.2.2)
          have t0 := (HM.out.1 (i + k)).1
          have t1 := (HM.out.1 (i + k)).2
          obtain ⟨x0, x1⟩ := dg_bound (by decide : (0 : Int) < 65536) A i
          obtain ⟨y0, y1⟩ := dg_bound (by decide : (0 : Int) < 65536) B k
          clear hcell hfree
          have i0 : (0 : Int) ≤ (i : Int) + k := by omega
          have i1 : (i : Int) + k < 32 := by omega
          have i2 : ((i : Int) + k).toNat = i + k := by omega
          have u0 := wrap_i64_id (x := (i : Int) + k) (by omega) (by omega)
          have u1 := wrap_i64_id (x := dg 65536 A i * dg 65536 B k) (by omega) (by omega)
          have u2 := wrap_i64_id (x := t (i + k) + dg 65536 A i * dg 65536 B k) (by omega) (by omega)
          have u3 := wrap_i64_id (x := t (i + k) + dg 65536 A i * dg 65536 B k + z) (by omega) (by omega)
          go_wp2
          go_quiet (fail)
          clear u1 u2 u3 u0
          go_wp2
          go_roundw
          case rel => exact ⟨k + 1, _, _, by omega, HST2.out.1, HST2.out.2.1, rfl, by go_num, HST.out, (HO.out.drewN _).store (i + k) _, (below_drewN hbel _).setCell (Nat.le_refl _) _⟩
          case measure => simp [intOf] <;> omega
        · obtain rfl : k = 16 := by omega
          obtain ⟨r0, r1⟩ := HM.out.row hlt HB.out
          have R0 := Lib.hid r0
          have R1 := Lib.hid r1
          have e1 := hcell (i + 16) (by omega)
          have f1 := hfree (i + 16)
          rw [R0.out] at e1
          clear hcell hfree r0 r1
          go_wp2
          go_roundw
          case rel => exact ⟨i + 1, _, by omega, by go_num, R1.out, by rw [R0.out]; have := HO.out.store (i + 16) z; rwa [show (0 : Int) + z = z by omega], hbel.setCell (Nat.le_refl _) _⟩
          case measure => simp [intOf] <;> omega
    · obtain rfl : i = 16 := by omega
      have HR := Lib.hid (HO.out.congr (HM.out.done HA.out)).rd
      have HBel := Lib.hid hbel
      have hs := hbel.size
      clear hbel
      go_wp2_with fail
      refine (fMod_any _ (A * B) 32 (by omega) (mul_bound HA.out HB.out) _ HR.out).mono ?_
      rintro e w6 ⟨v6, rfl, hv6, hb6⟩
      have HV6 := Lib.hid (hv6.mono hs)
      have HB6 := Lib.hid (HBel.out.trans (hb6.mono hs))
      clear hv6 hb6
      go_wp2
      go_ret
      exact ⟨_, rfl, HV6.out, HB6.out⟩

/-- whether two numbers are one. -/
def eqN (A B : Int) : Bool := decide (A = B)
end Go.Proofs.Ytllkfkbioloaoaa
