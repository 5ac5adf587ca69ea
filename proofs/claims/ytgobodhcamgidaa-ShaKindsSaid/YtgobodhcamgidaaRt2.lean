/-
  sha.product: what it answers. Conditions: named in each theorem.
-/
import Derived.Test.YtgobodhcamgidaaRt1
import Derived.Test.YtgobodhcamgidaaSh12
set_option linter.unusedVariables false
set_option linter.unusedSimpArgs false
namespace Go.Bas
/-- the carries of one step. -/
theorem mulw_carry {x y g z : Int} (hx : 0 ≤ x ∧ x < M64) (hy : 0 ≤ y ∧ y < M64) (hg : 0 ≤ g ∧ g < M64) (hz : 0 ≤ z ∧ z < M64) :
    ((x * y % M64 + g) % M64 + z) % M64 = (g + x * y + z) % M64 ∧ x * y / M64 + (x * y % M64 + g) / M64 + ((x * y % M64 + g) % M64 + z) / M64 = (g + x * y + z) / M64 ∧
    0 ≤ x * y / M64 ∧ x * y / M64 + (x * y % M64 + g) / M64 < M64 ∧ (g + x * y + z) / M64 < M64 ∧ 0 ≤ (g + x * y + z) / M64 ∧ 0 ≤ (x * y % M64 + g) / M64 ∧ 0 ≤ ((x * y % M64 + g) % M64 + z) / M64 := by
  unfold M64 at *
  have h := mulw_le hx.1 (by omega) hy.1 (by omega)
  generalize x * y = p at *
  omega
end Go.Bas
namespace Go.Proofs.Ytgobodhcamgidaa
open Go.RowKit Go.Bas
attribute [local go_sem ↓] Go.wp_at_zero Go.wp_at_succ

set_option maxRecDepth 100000 in
set_option maxHeartbeats 3200000 in
theorem product_any (va vb : Value) (la lb : Nat) (A B : Int) (hA : 0 ≤ A ∧ A < 18446744073709551616 ^ la) (hB : 0 ≤ B ∧ B < 18446744073709551616 ^ lb) (l1 : la ≤ 10) (l2 : 1 ≤ lb) (l3 : lb ≤ 10) (w : World)
    (ha : Rd .u64 w va la (dg 18446744073709551616 A)) (hb : Rd .u64 w vb lb (dg 18446744073709551616 B)) :
    Calls Try.prog 75 #[va, vb] w fun e w' => ∃ v, e = .returned v ∧ Go.Bas.Own .u64 36 w.heap.size w' v (la + lb) (dg 18446744073709551616 (A * B)) ∧ Below w.heap.size w w' := by
  obtain ⟨R, hR⟩ : ∃ R, R = dg 18446744073709551616 (A * B) := ⟨_, rfl⟩
  obtain ⟨fa, hfa⟩ : ∃ fa, fa = dg 18446744073709551616 A := ⟨_, rfl⟩
  obtain ⟨fb, hfb⟩ : ∃ fb, fb = dg 18446744073709551616 B := ⟨_, rfl⟩
  obtain ⟨n, hn⟩ : ∃ n, n = la + lb := ⟨_, rfl⟩
  have HFA : Hid (∀ i, 0 ≤ fa i ∧ fa i < M64) := by rw [hfa]; exact fun i => dg_bound (by decide) A i
  have HFB : Hid (∀ i, 0 ≤ fb i ∧ fb i < M64) := by rw [hfb]; exact fun i => dg_bound (by decide) B i
  have HZ := Lib.hid (MulW.zero la lb A B)
  have HSTEP : Hid (∀ g i k c, MulW la lb A B g i k c → i < la → k < lb → MulW la lb A B (upd g (i + k) ((g (i + k) + fa i * fb k + c) % M64)) i (k + 1) ((g (i + k) + fa i * fb k + c) / M64)) := by
    rw [hfa, hfb]; exact fun g i k c h h1 h2 => h.step h1 h2
  have HROW : Hid (∀ g i c, MulW la lb A B g i lb c → i < la → g (i + lb) = 0 ∧ MulW la lb A B (upd g (i + lb) (g (i + lb) + c)) (i + 1) 0 0) := fun g i c h h1 => h.row h1 hB
  have HBND : Hid (∀ g i k c, MulW la lb A B g i k c → (∀ j, 0 ≤ g j ∧ g j < M64) ∧ 0 ≤ c ∧ c < M64) := fun g i k c h => ⟨h.1, h.2.2.1, h.2.2.2.1⟩
  have HDONE : Hid (∀ g, MulW la lb A B g la 0 0 → ∀ i, i < n → g i = R i) := by rw [hR, hn]; exact fun g h => h.done hA
  rw [← hR, ← hn]
  rw [← hfa] at ha
  rw [← hfb] at hb
  have hn' : (la : Int) + (lb : Int) = (n : Int) := by omega
  have HN : Hid (n = la + lb) := hn
  have hnl : la ≤ n := by omega
  have hnl2 : n ≤ 20 := by omega
  have hn0 : 0 < n := by omega
  have HXA := Lib.hid ha
  have HXB := Lib.hid hb
  obtain ⟨xa, xc, rfl, xl, xm, _, _⟩ := ha
  obtain ⟨ya, yc, rfl, yl, ym, _, _⟩ := hb
  clear hA hB hR hfa hfb hn
  generalize hMW : MulW la lb A B = MW at *
  clear hMW
  go_enter Try.func75, Try.ntmps75
  go_wp2_with (refine make_ints rfl _ _ 46 rfl w.heap.size 36 .u64 8 Try.underlying46 Try.info36 .i64 .i64 n rfl rfl (by omega) (by omega) (Nat.le_refl _) ?_; intro w4 hown hgrow)
  have hb4 : Below w.heap.size w w4 := below_grown0 (Below.refl _ _) hgrow (Nat.le_refl _)
  clear hgrow hn'
  go_wp2
  go_loopw [24] (fun i wr => ∃ (k : Nat) (t : Nat → Int), k ≤ la ∧ i = .int .i64 k ∧ MW t k 0 0 ∧ Go.Bas.Own .u64 36 w.heap.size wr (.slice (some ⟨w.heap.size, 0, none⟩) n n) n t ∧ Below w.heap.size w wr) (fun i _ => la - (intOf i).toNat)
  case atStart => exact ⟨0, _, Nat.zero_le _, rfl, HZ.out, hown, hb4⟩
  case round =>
    clear hown hb4
    obtain ⟨i, t, hi, rfl, hM, ho, hbel⟩ := hrel
    have HM := Lib.hid hM
    have HO := Lib.hid ho
    clear hM ho
    by_cases hlt : i < la
    · obtain ⟨xb, xo, rfl, xs, xe⟩ := HXA.out.formAt (by omega)
      obtain ⟨x, hx⟩ : ∃ x, x = fa i := ⟨_, rfl⟩
      have HX := Lib.hid hx
      have c1 : wr.cell? ⟨xb, xo + i, none⟩ = some (.int .u64 x) := by rw [HX.out]; exact (hbel.cell (p := ⟨xb, xo + i, none⟩) xs).trans (xe i hlt)
      have HXB' : Hid (0 ≤ x ∧ x < M64) := by rw [HX.out]; exact HFA.out i
      obtain ⟨wq, hwq⟩ : ∃ wq, wq = wr := ⟨_, rfl⟩
      subst hwq
      have HBel := Lib.hid hbel
      clear hbel hx xe
      go_wp2
      clear c1
      go_loopw [31, 8] (fun j c wr => ∃ (k : Nat) (z : Int) (t : Nat → Int), k ≤ lb ∧ c = .int .u64 z ∧ j = .int .i64 k ∧ MW t i k z ∧ Go.Bas.Own .u64 36 w.heap.size wr (.slice (some ⟨w.heap.size, 0, none⟩) n n) n t ∧ Below w.heap.size w wr) (fun j _ _ => lb - (intOf j).toNat)
      case atStart => exact ⟨0, 0, t, Nat.zero_le _, rfl, rfl, HM.out, HO.out, HBel.out⟩
      case round =>
        clear HM HO HBel
        obtain ⟨k, z, t, hk, rfl, rfl, hM, ho, hbel⟩ := hrel
        have HM := Lib.hid hM
        have HO := Lib.hid ho
        clear hM ho
        obtain ⟨g', cc', he, _, _, _, _, hcell, hfree⟩ := HO.out.form (by omega)
        simp only [Value.slice.injEq, Option.some.injEq, Addr.mk.injEq] at he
        obtain ⟨⟨rfl, q1⟩, q2⟩ := he
        clear q1 q2
        by_cases hkt : k < lb
        · obtain ⟨yb, yo, rfl, ys, ye⟩ := HXB.out.formAt (by omega)
          obtain ⟨y, hy⟩ : ∃ y, y = fb k := ⟨_, rfl⟩
          obtain ⟨g, hg⟩ : ∃ g, g = t (i + k) := ⟨_, rfl⟩
          have HY := Lib.hid hy
          have HG := Lib.hid hg
          have c2 : wr.cell? ⟨yb, yo + k, none⟩ = some (.int .u64 y) := by rw [HY.out]; exact (hbel.cell (p := ⟨yb, yo + k, none⟩) ys).trans (ye k hkt)
          have hin : i + k < n := by have := HN.out; omega
          have e1 : wr.cell? ⟨w.heap.size, i + k, none⟩ = some (.int .u64 g) := by rw [HG.out]; exact hcell (i + k) hin
          have f1 := hfree (i + k)
          have hb3 := HBND.out _ _ _ _ HM.out
          have yb3 : 0 ≤ y ∧ y < M64 := by rw [HY.out]; exact HFB.out k
          have gb3 : 0 ≤ g ∧ g < M64 := by rw [HG.out]; exact hb3.1 _
          obtain ⟨r1, r2, r3, r4, r5, r6, r7, r8⟩ := mulw_carry HXB'.out yb3 gb3 hb3.2
          have hmul := mul64_any x y HXB'.out yb3
          have hst := HSTEP.out _ _ _ _ HM.out hlt hkt
          rw [← HX.out, ← HY.out, ← HG.out] at hst
          obtain ⟨hi2, hhi⟩ : ∃ h, h = x * y / M64 := ⟨_, rfl⟩
          obtain ⟨lo, hlo⟩ : ∃ h, h = x * y % M64 := ⟨_, rfl⟩
          rw [← hhi, ← hlo] at hmul
          rw [← hhi, ← hlo] at r2 r4
          rw [← hhi] at r3
          rw [← hlo] at r1 r7 r8
          have lo0 : 0 ≤ lo := by rw [hlo]; exact (mod64_bound _).1
          have hadd1 := add64_run lo g lo0 gb3.1
          obtain ⟨s1, hs1⟩ : ∃ h, h = (lo + g) % M64 := ⟨_, rfl⟩
          obtain ⟨c1, hc1⟩ : ∃ h, h = (lo + g) / M64 := ⟨_, rfl⟩
          rw [← hs1, ← hc1] at hadd1
          rw [← hs1, ← hc1] at r2
          rw [← hc1] at r4 r7
          rw [← hs1] at r1 r8
          have s10 : 0 ≤ s1 := by rw [hs1]; exact (mod64_bound _).1
          have hadd2 := add64_run s1 z s10 hb3.2.1
          obtain ⟨s2, hs2⟩ : ∃ h, h = (s1 + z) % M64 := ⟨_, rfl⟩
          obtain ⟨d, hd⟩ : ∃ h, h = (s1 + z) / M64 := ⟨_, rfl⟩
          rw [← hs2, ← hd] at hadd2
          rw [← hd] at r2 r8
          rw [← hs2] at r1
          obtain ⟨z2, hz2⟩ : ∃ h, h = (g + x * y + z) / M64 := ⟨_, rfl⟩
          rw [← hz2] at r2 r5 r6 hst
          rw [← r1] at hst
          have HST := Lib.hid hst
          have hM : M64 = 18446744073709551616 := rfl
          obtain ⟨h1, hh1⟩ : ∃ h, h = hi2 + c1 := ⟨_, rfl⟩
          have u1 : IntKind.u64.wrap (hi2 + c1) = h1 := by rw [hh1, wrap_u64_id (by omega) (by omega)]
          have u2 : IntKind.u64.wrap (h1 + d) = z2 := by rw [hh1, r2, wrap_u64_id (by omega) (by omega)]
          have U1 := Lib.hid u1
          have U2 := Lib.hid u2
          have MUL := Lib.hid hmul
          clear hcell hfree hb3 yb3 gb3 r1 r2 r3 r4 r5 r6 r7 r8 hst hhi hlo hs1 hc1 hs2 hd hz2 hM hh1 u1 u2 hy hg ye lo0 s10 hmul
          have i0 : (0 : Int) ≤ (i : Int) + k := by omega
          have i1 : (i : Int) + k < n := by omega
          have i2 : ((i : Int) + k).toNat = i + k := by omega
          have u0 := wrap_i64_id (x := (i : Int) + k) (by omega) (by omega)
          go_wp2_with fail
          refine (MUL.out _).mono ?_
          rintro e w5 ⟨rfl, rfl⟩
          have u1 := U1.out
          have u2 := U2.out
          go_wp2
          go_roundw
          case rel => exact ⟨k + 1, _, _, by omega, rfl, by go_num, HST.out, HO.out.store (i + k) _, hbel.setCell (Nat.le_refl _) _⟩
          case measure => simp [intOf] <;> omega
        · obtain rfl : k = lb := by omega
          obtain ⟨r0, r1⟩ := HROW.out _ _ _ HM.out hlt
          have R0 := Lib.hid r0
          have R1 := Lib.hid r1
          have hin : i + k < n := by have := HN.out; omega
          have e1 := hcell (i + k) hin
          have f1 := hfree (i + k)
          have i0 : (0 : Int) ≤ (i : Int) + k := by omega
          have i1 : (i : Int) + k < n := by omega
          have i2 : ((i : Int) + k).toNat = i + k := by omega
          have u0 := wrap_i64_id (x := (i : Int) + k) (by omega) (by omega)
          rw [R0.out] at e1
          clear hcell hfree r0 r1
          go_wp2
          go_roundw
          case rel => exact ⟨i + 1, _, by omega, by go_num, R1.out, by rw [R0.out]; have := HO.out.store (i + k) z; rwa [show (0 : Int) + z = z by omega], hbel.setCell (Nat.le_refl _) _⟩
          case measure => simp [intOf] <;> omega
    · obtain rfl : i = la := by omega
      have HR := HO.out.congr (HDONE.out _ HM.out)
      go_wp2
      go_ret
      exact ⟨_, rfl, HR, hbel⟩
end Go.Proofs.Ytgobodhcamgidaa
