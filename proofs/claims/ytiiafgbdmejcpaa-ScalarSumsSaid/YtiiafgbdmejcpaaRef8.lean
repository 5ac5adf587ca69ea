/-
  bastilleref06: Of, Add, Mul: what each makes. Conditions: named in each theorem.
-/
import Derived.Test.YtiiafgbdmejcpaaRef7
import Derived.Test.YtiiafgbdmejcpaaMulN
namespace Go.Proofs.Ytiiafgbdmejcpaa
open Go.RowKit Go.Bas
attribute [local go_sem ↓] Go.wp_at_zero Go.wp_at_succ

theorem dg_high {X : Int} {n j : Nat} (hX : 0 ≤ X ∧ X < 256 ^ n) (h : n ≤ j) : dg 256 X j = 0 :=
  dg_small ⟨hX.1, Int.lt_of_lt_of_le hX.2 (pow_mono 256 (by decide) n j h)⟩
theorem pow_256_even (j : Nat) : (256 : Int) ^ (2 * j) = 65536 ^ j := by rw [Int.pow_mul]; rfl
theorem half_bound {X : Int} {n : Nat} (hX : 0 ≤ X ∧ X < 256 ^ n) : 0 ≤ X ∧ X < 65536 ^ ((n + 1) / 2) := by
  refine ⟨hX.1, Int.lt_of_lt_of_le hX.2 ?_⟩
  rw [← pow_256_even]
  exact pow_mono 256 (by decide) _ _ (by omega)

set_option maxRecDepth 100000 in
set_option maxHeartbeats 1600000 in
theorem rOf_any (v : Value) (X : Int) (n : Nat) (hn : n ≤ 1000) (hX : 0 ≤ X ∧ X < 256 ^ n) (w : World) (hv : Rd .u8 w v n (dg 256 X)) :
    Calls Try.prog 37 #[v] w fun e w' =>
      e = .returned (.agg (arr .u8 32 (dg 256 (X % Q)))) ∧ Below w.heap.size w w' := by
  obtain ⟨a1, c1, rfl, l1, m1, z1, h1⟩ := hv
  have H1 := Lib.hid h1
  have HX := Lib.hid hX
  clear z1 h1 hX
  go_enter Try.func37, Try.ntmps37
  go_wp2
  go_loopw [3, 4] (fun v i wr => ∃ j : Nat, j ≤ (n + 1) / 2 ∧ i = .int .i64 (2 * j : Nat) ∧ Own .i64 3 (w.heap.size + 1) wr v j (dg 65536 X) ∧ Arr .u8 wr w.heap.size 32 (fun _ => 0) ∧ Below w.heap.size w wr) (fun _ i _ => n + 1 - (intOf i).toNat)
  case atStart => exact ⟨0, Nat.zero_le _, rfl, Own.nil _ _ _ _ _, Arr.newAt (by first | omega | (simp <;> omega)) (by rfl), (Below.refl _ _).alloc (Nat.le_refl _) _⟩
  case round =>
    obtain ⟨j, hj, rfl, ho, hA, hbel⟩ := hrel
    have HO := Lib.hid ho
    have HA := Lib.hid hA
    have hAlt := hA.lt
    have hsz := hbel.size
    have hne := HO.out.far (Nat.lt_succ_self w.heap.size)
    clear ho hA
    by_cases hlt : 2 * j < n
    · obtain ⟨b, off, rfl, s1, hcell⟩ := H1.out (by omega)
      have e0 := (hbel.cell (p := ⟨b, off + 2 * j, none⟩) s1).trans (hcell (2 * j) hlt)
      obtain ⟨p0, p0'⟩ := dg_bound (by decide : (0 : Int) < 256) X (2 * j)
      obtain ⟨p1, p1'⟩ := dg_bound (by decide : (0 : Int) < 256) X (2 * j + 1)
      have hp := pair16 X j
      have HP : Hid (dg 256 X (2 * j) + 256 * dg 256 X (2 * j + 1) = dg 65536 X j) := by unfold Hid; omega
      clear hp
      by_cases hlt2 : 2 * j + 1 < n
      · have e1 := (hbel.cell (p := ⟨b, off + (2 * j + 1), none⟩) s1).trans (hcell (2 * j + 1) hlt2)
        clear hcell
        go_wp2_with (at_builtin; refine append_new rfl _ _ 59 rfl (w.heap.size + 1) 3 .i64 8 Try.underlying59 Try.info3 _ j (dg 65536 X) _ _ rfl HO.out rfl 1 rfl rfl ?_ (by omega) (by omega) (by omega) ?_; rotate_right; intro v' w1 hown hgrow)
        · go_roundw
          case rel => exact ⟨j + 1, by omega, by go_num, hown, (Arr.alloc HA.out _).grown hgrow hne, below_grown (hbel.alloc hsz _) hgrow HO.out (by simp; omega) (by omega)⟩
          case measure => simp [intOf] <;> omega
        · intro i hi
          exact one0 hi (by rw [show j + i = j by omega]; exact HP.out)
      · have hz : Hid (dg 256 X (2 * j + 1) = 0) := dg_high HX.out (by omega)
        clear hcell
        go_wp2_with (at_builtin; refine append_new rfl _ _ 59 rfl (w.heap.size + 1) 3 .i64 8 Try.underlying59 Try.info3 _ j (dg 65536 X) _ _ rfl HO.out rfl 1 rfl rfl ?_ (by omega) (by omega) (by omega) ?_; rotate_right; intro v' w1 hown hgrow)
        · go_roundw
          case rel => exact ⟨j + 1, by omega, by go_num, hown, (Arr.alloc HA.out _).grown hgrow hne, below_grown (hbel.alloc hsz _) hgrow HO.out (by simp; omega) (by omega)⟩
          case measure => simp [intOf] <;> omega
        · intro i hi
          exact one0 hi (by rw [show j + i = j by omega]; have := HP.out; have := hz.out; omega)
    · obtain rfl : j = (n + 1) / 2 := by omega
      go_wp2_with fail
      refine (rMod_any _ X ((n + 1) / 2) (by omega) (half_bound HX.out) _ HO.out.rd).mono ?_
      rintro e w2 ⟨v2, rfl, hv2, hb2⟩
      have HV2 := Lib.hid hv2
      clear hv2
      go_wp2_with fail
      refine (rBytes_any _ (X % Q) 16 (by decide) _ HV2.out).mono ?_
      rintro e w3 ⟨rfl, hb3⟩
      have hZ := (HA.out.kept hb2).below hb3 (by have := hb2.size; omega)
      have hB : Below w.heap.size w w3 := (hbel.trans (hb2.mono hsz)).trans (hb3.mono (by have := hb2.size; omega))
      clear hbel hb2 hb3
      go_wp2_with (refine store_arr rfl 38 _ _ rfl .u8 w.heap.size 32 (fun _ => 0) _ Try.size38 rfl rfl hZ ?_)
      exact bodyPost_ret (results_arr rfl _ _ .u8 w.heap.size 32 _ 5 rfl (hZ.setRow _ _) Try.underlying38 Try.size38) rfl ⟨rfl, below_setRow' hB (Nat.le_refl _) _⟩

theorem carS_top {A B : Int} (hA : 0 ≤ A ∧ A < 256 ^ 32) (hB : 0 ≤ B ∧ B < 256 ^ 32) : carS A B 16 = dg 65536 (A + B) 16 ∧ 0 ≤ A + B ∧ A + B < 65536 ^ 17 := by
  have e : (256 : Int) ^ 32 = 65536 ^ 16 := by decide
  rw [e] at hA hB
  have h2 : (65536 : Int) ^ 17 = 65536 * 65536 ^ 16 := by decide
  refine ⟨?_, by omega, by omega⟩
  unfold carS dg
  rw [Int.ediv_eq_zero_of_lt hA.1 hA.2, Int.ediv_eq_zero_of_lt hB.1 hB.2]
  have h3 : (A + B) / 65536 ^ 16 < 65536 := Int.ediv_lt_of_lt_mul (by decide) (by omega)
  have h4 : 0 ≤ (A + B) / 65536 ^ 16 := Int.ediv_nonneg (by omega) (by decide)
  omega

set_option maxRecDepth 100000 in
set_option maxHeartbeats 1600000 in
theorem rAdd_any (A B : Int) (w : World) (hA : 0 ≤ A ∧ A < 256 ^ 32) (hB : 0 ≤ B ∧ B < 256 ^ 32) :
    Calls Try.prog 45 #[.agg (arr .u8 32 (dg 256 A)), .agg (arr .u8 32 (dg 256 B))] w fun e w' =>
      e = .returned (.agg (arr .u8 32 (dg 256 ((A + B) % Q)))) ∧ Below w.heap.size w w' := by
  have HT := Lib.hid (carS_top hA hB)
  clear hA hB
  go_enter Try.func45, Try.ntmps45
  go_wp2_with (refine load_arr rfl 38 _ rfl .u8 w.heap.size 32 _ 5 Try.underlying38 Try.size38 rfl (Arr.alloc (Arr.alloc (Arr.new .u8 w 38 32 (dg 256 A)) _) _) ?_)
  refine (rDigits_any A _).mono ?_
  rintro e w1 ⟨x, rfl, hx, hb1⟩
  have hB : Arr .u8 w1 (w.heap.size + 1) 32 (dg 256 B) := Arr.kept (Arr.alloc (Arr.newAt (by first | omega | (simp <;> omega)) (by rfl)) _) hb1
  have hZ : Arr .u8 w1 (w.heap.size + 2) 32 (fun _ => 0) := Arr.kept (Arr.newAt (by first | omega | (simp <;> omega)) (by rfl)) hb1
  have hs1 : w.heap.size + 3 ≤ w1.heap.size := by have := hb1.size; simpa using this
  have hb2 : Below w.heap.size w w1 := ((((Below.refl _ _).alloc (Nat.le_refl _) _).alloc (by simp) _).alloc (by simp; omega) _).trans (hb1.mono (by simp; omega))
  have HX := Lib.hid hx.rd
  clear hx hb1
  go_wp2_with (refine load_arr rfl 38 _ rfl .u8 (w.heap.size + 1) 32 _ 5 Try.underlying38 Try.size38 rfl hB ?_)
  refine (rDigits_any B _).mono ?_
  rintro e w3 ⟨y, rfl, hy, hb3⟩
  have hZ3 := hZ.kept hb3
  have hb := hb2.trans (hb3.mono (by omega))
  have HX3 := Lib.hid (HX.out.below hb3)
  have HY := Lib.hid hy.rd
  have hs3 : w.heap.size + 3 ≤ w3.heap.size := by have := hb3.size; omega
  clear hy hb2 hb3 hZ hB HX hs1
  obtain ⟨xa, xc, rfl, xl, xm, xz, xh⟩ := HX3.out
  obtain ⟨ya, yc, rfl, yl, ym, yz, yh⟩ := HY.out
  obtain ⟨xb, xo, rfl, xs, xe⟩ := xh (by decide)
  obtain ⟨yb, yo, rfl, ys, ye⟩ := yh (by decide)
  have XE := Lib.hid xe
  have YE := Lib.hid ye
  clear xz yz xe ye xh yh
  go_wp2
  go_loopw [7, 8, 9] (fun v c i wr => ∃ (k : Nat) (z : Int), k ≤ 16 ∧ z = carS A B k ∧ 0 ≤ z ∧ z ≤ 1 ∧ c = .int .i64 z ∧ i = .int .i64 k ∧ Own .i64 3 w3.heap.size wr v k (dg 65536 (A + B)) ∧ Below w3.heap.size w3 wr) (fun _ _ i _ => 16 - (intOf i).toNat)
  case atStart => exact ⟨0, 0, Nat.zero_le _, (carS_zero _ _).symm, by decide, by decide, rfl, rfl, Own.nil _ _ _ _ _, Below.refl _ _⟩
  case round =>
    obtain ⟨k, z, hk, hz, z0, z1, rfl, rfl, ho, hbel⟩ := hrel
    have HZ := Lib.hid hz
    have HO := Lib.hid ho
    clear hz ho
    have hsz := hbel.size
    by_cases hlt : k < 16
    · have c1 := (hbel.cell (p := ⟨xb, xo + k, none⟩) xs).trans (XE.out k hlt)
      have c2 := (hbel.cell (p := ⟨yb, yo + k, none⟩) ys).trans (YE.out k hlt)
      obtain ⟨x0, x1⟩ := dg_bound (by decide : (0 : Int) < 65536) A k
      obtain ⟨y0, y1⟩ := dg_bound (by decide : (0 : Int) < 65536) B k
      have u1 := wrap_i64_id (x := dg 65536 A k + dg 65536 B k) (by omega) (by omega)
      have u2 := wrap_i64_id (x := dg 65536 A k + dg 65536 B k + z) (by omega) (by omega)
      have hst := carS_step A B k
      rw [← HZ.out] at hst
      have HST := Lib.hid hst
      clear hst
      go_wp2
      go_quiet (fail)
      clear u1 u2
      go_wp2_with (at_builtin; refine append_new rfl _ _ 59 rfl w3.heap.size 3 .i64 8 Try.underlying59 Try.info3 _ k (dg 65536 (A + B)) _ _ rfl (HO.out.drewN _) rfl 1 rfl rfl ?_ (by omega) (by omega) hsz ?_; rotate_right; intro v' w1 hown hgrow)
      · go_roundw
        case rel => exact ⟨k + 1, _, by omega, HST.out.2, by omega, by omega, rfl, by go_num, hown, below_grown ((below_drewN hbel _).alloc hsz _) hgrow HO.out (by simp; omega) (Nat.le_refl _)⟩
        case measure => simp [intOf] <;> omega
      · intro i hi
        exact one0 hi (by rw [show k + i = k by omega]; exact HST.out.1)
    · obtain rfl : k = 16 := by omega
      have hz16 : z = dg 65536 (A + B) 16 := HZ.out.trans HT.out.1
      have HZ16 := Lib.hid hz16
      clear hz16
      have hZw := hZ3.kept hbel
      have hbw := hb.trans (hbel.mono (by omega))
      clear hZ3 hb hbel
      go_wp2_with (at_builtin; refine append_new rfl _ _ 59 rfl w3.heap.size 3 .i64 8 Try.underlying59 Try.info3 _ 16 (dg 65536 (A + B)) _ _ rfl HO.out rfl 1 rfl rfl ?_ (by omega) (by omega) hsz ?_; rotate_right; intro v' w5 hown hgrow)
      · have hne := HO.out.far (b := w.heap.size + 2) (by omega)
        have hZ5 := (Arr.alloc hZw _).grown hgrow hne
        have hb5 := below_grown (hbw.alloc (by omega) _) hgrow HO.out (by simp; omega) (by omega)
        have HR := Lib.hid hown.rd
        clear hown hgrow hZw hbw hne
        refine (rMod_any _ (A + B) 17 (by omega) HT.out.2 _ HR.out).mono ?_
        rintro e w6 ⟨v6, rfl, hv6, hb6⟩
        have hZ6 := hZ5.kept hb6
        have hB6 := hb5.trans (hb6.mono hb5.size)
        have HV6 := Lib.hid hv6
        clear hv6 hZ5 hb5 hb6
        go_wp2_with fail
        refine (rBytes_any _ ((A + B) % Q) 16 (by decide) _ HV6.out).mono ?_
        rintro e w7 ⟨rfl, hb7⟩
        have hZ7 := hZ6.kept hb7
        have hB7 := hB6.trans (hb7.mono hB6.size)
        clear hZ6 hB6 hb7
        go_wp2_with (refine store_arr rfl 38 _ _ rfl .u8 (w.heap.size + 2) 32 (fun _ => 0) _ Try.size38 rfl rfl hZ7 ?_)
        exact bodyPost_ret (results_arr rfl _ _ .u8 (w.heap.size + 2) 32 _ 5 rfl (hZ7.setRow _ _) Try.underlying38 Try.size38) rfl ⟨rfl, below_setRow' hB7 (by omega) _⟩
      · intro i hi
        exact one0 hi (by rw [show 16 + i = 16 by omega]; exact HZ16.out)

set_option maxRecDepth 100000 in
set_option maxHeartbeats 25600000 in
theorem rMul_any (A B : Int) (w : World) (hA : 0 ≤ A ∧ A < 256 ^ 32) (hB : 0 ≤ B ∧ B < 256 ^ 32) :
    Calls Try.prog 47 #[.agg (arr .u8 32 (dg 256 A)), .agg (arr .u8 32 (dg 256 B))] w fun e w' =>
      e = .returned (.agg (arr .u8 32 (dg 256 (A * B % Q)))) ∧ Below w.heap.size w w' := by
  have e32 : (256 : Int) ^ 32 = 65536 ^ 16 := by decide
  rw [e32] at hA hB
  have HA := Lib.hid hA
  have HB := Lib.hid hB
  clear hA hB e32
  go_enter Try.func47, Try.ntmps47
  go_wp2_with (refine load_arr rfl 38 _ rfl .u8 w.heap.size 32 _ 5 Try.underlying38 Try.size38 rfl (Arr.alloc (Arr.alloc (Arr.new .u8 w 38 32 (dg 256 A)) _) _) ?_)
  refine (rDigits_any A _).mono ?_
  rintro e w1 ⟨x, rfl, hx, hb1⟩
  have hB : Arr .u8 w1 (w.heap.size + 1) 32 (dg 256 B) := Arr.kept (Arr.alloc (Arr.newAt (by first | omega | (simp <;> omega)) (by rfl)) _) hb1
  have hZ : Arr .u8 w1 (w.heap.size + 2) 32 (fun _ => 0) := Arr.kept (Arr.newAt (by first | omega | (simp <;> omega)) (by rfl)) hb1
  have hs1 : w.heap.size + 3 ≤ w1.heap.size := by have := hb1.size; simpa using this
  have hb2 : Below w.heap.size w w1 := ((((Below.refl _ _).alloc (Nat.le_refl _) _).alloc (by simp) _).alloc (by simp; omega) _).trans (hb1.mono (by simp; omega))
  have HX := Lib.hid hx.rd
  clear hx hb1
  go_wp2_with (refine load_arr rfl 38 _ rfl .u8 (w.heap.size + 1) 32 _ 5 Try.underlying38 Try.size38 rfl hB ?_)
  refine (rDigits_any B _).mono ?_
  rintro e w3 ⟨y, rfl, hy, hb3⟩
  have hZ3 := hZ.kept hb3
  have hb := hb2.trans (hb3.mono (by omega))
  have HX3 := Lib.hid (HX.out.below hb3)
  have HY := Lib.hid hy.rd
  have hs3 : w.heap.size + 3 ≤ w3.heap.size := by have := hb3.size; omega
  clear hy hb2 hb3 hZ hB HX hs1
  obtain ⟨xa, xc, rfl, xl, xm, xz, xh⟩ := HX3.out
  obtain ⟨ya, yc, rfl, yl, ym, yz, yh⟩ := HY.out
  obtain ⟨xb, xo, rfl, xs, xe⟩ := xh (by decide)
  obtain ⟨yb, yo, rfl, ys, ye⟩ := yh (by decide)
  have XE := Lib.hid xe
  have YE := Lib.hid ye
  clear xz yz xe ye xh yh
  go_wp2_with (refine make_ints rfl _ _ 59 rfl w3.heap.size 3 .i64 8 Try.underlying59 Try.info3 .i64 .i64 32 rfl rfl (by decide) (by decide) (Nat.le_refl _) ?_; intro w4 hown hgrow)
  have hb4 : Below w3.heap.size w3 w4 := below_grown0 (Below.refl _ _) hgrow (Nat.le_refl _)
  clear hgrow
  go_loopw [8] (fun i wr => ∃ (k : Nat) (t : Nat → Int), k ≤ 16 ∧ i = .int .i64 k ∧ MulInv 16 16 A B t k 0 0 ∧ Own .i64 3 w3.heap.size wr (.slice (some ⟨w3.heap.size, 0, none⟩) 32 32) 32 t ∧ Below w3.heap.size w3 wr) (fun i _ => 16 - (intOf i).toNat)
  case atStart => exact ⟨0, _, Nat.zero_le _, rfl, MulInv.zero _ _ _ _, hown, hb4⟩
  case round =>
    obtain ⟨i, t, hi, rfl, hM, ho, hbel⟩ := hrel
    have HM := Lib.hid hM
    have HO := Lib.hid ho
    clear hM ho
    by_cases hlt : i < 16
    · have HBel := Lib.hid hbel
      clear hbel
      go_wp2
      go_loopw [9, 10] (fun c j wr => ∃ (k : Nat) (z : Int) (t : Nat → Int), k ≤ 16 ∧ 0 ≤ z ∧ z < 65536 ∧ c = .int .i64 z ∧ j = .int .i64 k ∧ MulInv 16 16 A B t i k z ∧ Own .i64 3 w3.heap.size wr (.slice (some ⟨w3.heap.size, 0, none⟩) 32 32) 32 t ∧ Below w3.heap.size w3 wr) (fun _ j _ => 16 - (intOf j).toNat)
      case atStart => exact ⟨0, 0, t, Nat.zero_le _, by decide, by decide, rfl, rfl, HM.out, HO.out, HBel.out⟩
      case round =>
        clear HM HO HBel
        obtain ⟨k, z, t, hk, z0, z1, rfl, rfl, hM, ho, hbel⟩ := hrel
        have HM := Lib.hid hM
        have HO := Lib.hid ho
        clear hM ho
        obtain ⟨g', cc', he, _, _, _, _, hcell, hfree⟩ := HO.out.form (by decide)
        simp only [Value.slice.injEq, Option.some.injEq, Addr.mk.injEq] at he
        obtain ⟨⟨rfl, q1⟩, q2⟩ := he
        clear q1 q2
        by_cases hkt : k < 16
        · have e1 := hcell (i + k) (by omega)
          have f1 := hfree (i + k)
          have c1 := (hbel.cell (p := ⟨xb, xo + i, none⟩) xs).trans (XE.out i hlt)
          have c2 := (hbel.cell (p := ⟨yb, yo + k, none⟩) ys).trans (YE.out k hkt)
          obtain ⟨m0, m1, m2, m3, m4, m5⟩ := HM.out.bound
          have HST := Lib.hid (HM.out.step hlt hkt)
          have HST2 := Lib.hid (HST.out.2.2)
          have t0 := (HM.out.1 (i + k)).1
          have t1 := (HM.out.1 (i + k)).2
          obtain ⟨x0, x1⟩ := dg_bound (by decide : (0 : Int) < 65536) A i
          obtain ⟨y0, y1⟩ := dg_bound (by decide : (0 : Int) < 65536) B k
          clear hcell hfree
          have i0 : (0 : Int) ≤ (i : Int) + k := by omega
          have i1 : (i : Int) + k < 32 := by omega
          have i2 : ((i : Int) + k).toNat = i + k := by omega
          have u0 := wrap_i64_id (x := (i : Int) + k) (by omega) (by omega)
          have u1 := wrap_i64_id (x := dg 65536 A i * dg 65536 B k) (by omega) (by omega)
          have u2 := wrap_i64_id (x := t (i + k) + dg 65536 A i * dg 65536 B k) (by omega) (by omega)
          have u3 := wrap_i64_id (x := t (i + k) + dg 65536 A i * dg 65536 B k + z) (by omega) (by omega)
          go_wp2
          go_quiet (fail)
          clear u1 u2 u3 u0
          go_wp2
          go_roundw
          case rel => exact ⟨k + 1, _, _, by omega, HST2.out.1, HST2.out.2.1, rfl, by go_num, HST.out, (HO.out.drewN _).store (i + k) _, (below_drewN hbel _).setCell (Nat.le_refl _) _⟩
          case measure => simp [intOf] <;> omega
        · obtain rfl : k = 16 := by omega
          obtain ⟨r0, r1⟩ := HM.out.row hlt HB.out
          have R0 := Lib.hid r0
          have R1 := Lib.hid r1
          have e1 := hcell (i + 16) (by omega)
          have f1 := hfree (i + 16)
          rw [R0.out] at e1
          clear hcell hfree r0 r1
          go_wp2
          go_roundw
          case rel => exact ⟨i + 1, _, by omega, by go_num, R1.out, by rw [R0.out]; have := HO.out.store (i + 16) z; rwa [show (0 : Int) + z = z by omega], hbel.setCell (Nat.le_refl _) _⟩
          case measure => simp [intOf] <;> omega
    · obtain rfl : i = 16 := by omega
      have hr := (HO.out.congr (HM.out.done HA.out)).rd
      have HR := Lib.hid hr
      have hZw := hZ3.kept hbel
      have hbw := hb.trans (hbel.mono (by omega))
      clear hZ3 hb hbel hr
      go_wp2_with fail
      refine (rMod_any _ (A * B) 32 (by omega) (mul_bound HA.out HB.out) _ HR.out).mono ?_
      rintro e w6 ⟨v6, rfl, hv6, hb6⟩
      have hZ6 := hZw.kept hb6
      have hB6 := hbw.trans (hb6.mono hbw.size)
      have HV6 := Lib.hid hv6
      clear hv6 hZw hbw hb6
      go_wp2_with fail
      refine (rBytes_any _ (A * B % Q) 16 (by decide) _ HV6.out).mono ?_
      rintro e w7 ⟨rfl, hb7⟩
      have hZ7 := hZ6.kept hb7
      have hB7 := hB6.trans (hb7.mono hB6.size)
      clear hZ6 hB6 hb7
      go_wp2_with (refine store_arr rfl 38 _ _ rfl .u8 (w.heap.size + 2) 32 (fun _ => 0) _ Try.size38 rfl rfl hZ7 ?_)
      exact bodyPost_ret (results_arr rfl _ _ .u8 (w.heap.size + 2) 32 _ 5 rfl (hZ7.setRow _ _) Try.underlying38 Try.size38) rfl ⟨rfl, below_setRow' hB7 (by omega) _⟩
end Go.Proofs.Ytiiafgbdmejcpaa
