/-
  bastilleref03.Times, bastilleref03.above: what each answers. Conditions: named in each theorem.
-/
import Derived.Test.YtgobodhcamgidaaRt3
set_option linter.unusedVariables false
set_option linter.unusedSimpArgs false
namespace Go.Proofs.Ytgobodhcamgidaa
open Go.RowKit Go.Bas
attribute [local go_sem ↓] Go.wp_at_zero Go.wp_at_succ

set_option maxRecDepth 100000 in
set_option maxHeartbeats 3200000 in
theorem times_any (va vb : Value) (la lb : Nat) (A B : Int) (hA : 0 ≤ A ∧ A < 65536 ^ la) (hB : 0 ≤ B ∧ B < 65536 ^ lb) (l1 : la ≤ 20) (l2 : 1 ≤ lb) (l3 : lb ≤ 20) (w : World)
    (ha : Rd .i64 w va la (dg 65536 A)) (hb : Rd .i64 w vb lb (dg 65536 B)) :
    Calls Try.prog 54 #[va, vb] w fun e w' => ∃ v, e = .returned v ∧ Go.Bas.Own .i64 3 w.heap.size w' v (la + lb) (dg 65536 (A * B)) ∧ Below w.heap.size w w' := by
  obtain ⟨n, hn⟩ : ∃ n, n = la + lb := ⟨_, rfl⟩
  have HN : Hid (n = la + lb) := hn
  have hn' : (la : Int) + (lb : Int) = (n : Int) := by omega
  have hnl : la ≤ n := by omega
  have hnl2 : n ≤ 40 := by omega
  have hn0 : 0 < n := by omega
  rw [← hn]
  have HA := Lib.hid hA
  have HB := Lib.hid hB
  have HXA := Lib.hid ha
  have HXB := Lib.hid hb
  obtain ⟨xa, xc, rfl, xl, xm, _, _⟩ := ha
  obtain ⟨ya, yc, rfl, yl, ym, _, _⟩ := hb
  clear hA hB hn
  go_enter Try.func54, Try.ntmps54
  go_wp2_with (refine make_ints rfl _ _ 44 rfl w.heap.size 3 .i64 8 Try.underlying44 Try.info3 .i64 .i64 n rfl rfl (by omega) (by omega) (Nat.le_refl _) ?_; intro w4 hown hgrow)
  have hb4 : Below w.heap.size w w4 := below_grown0 (Below.refl _ _) hgrow (Nat.le_refl _)
  clear hgrow hn'
  go_wp2
  go_loopw [6] (fun i wr => ∃ (k : Nat) (t : Nat → Int), k ≤ la ∧ i = .int .i64 k ∧ MulInv la lb A B t k 0 0 ∧ Go.Bas.Own .i64 3 w.heap.size wr (.slice (some ⟨w.heap.size, 0, none⟩) n n) n t ∧ Below w.heap.size w wr) (fun i _ => la - (intOf i).toNat)
  case atStart => exact ⟨0, _, Nat.zero_le _, rfl, MulInv.zero _ _ _ _, hown, hb4⟩
  case round =>
    clear hown hb4
    obtain ⟨i, t, hi, rfl, hM, ho, hbel⟩ := hrel
    have HM := Lib.hid hM
    have HO := Lib.hid ho
    clear hM ho
    by_cases hlt : i < la
    · have HBel := Lib.hid hbel
      clear hbel
      go_wp2
      go_loopw [7, 8] (fun c j wr => ∃ (k : Nat) (z : Int) (t : Nat → Int), k ≤ lb ∧ 0 ≤ z ∧ z < 65536 ∧ c = .int .i64 z ∧ j = .int .i64 k ∧ MulInv la lb A B t i k z ∧ Go.Bas.Own .i64 3 w.heap.size wr (.slice (some ⟨w.heap.size, 0, none⟩) n n) n t ∧ Below w.heap.size w wr) (fun _ j _ => lb - (intOf j).toNat)
      case atStart => exact ⟨0, 0, t, Nat.zero_le _, by decide, by decide, rfl, rfl, HM.out, HO.out, HBel.out⟩
      case round =>
        clear HM HO HBel
        obtain ⟨k, z, t, hk, z0, z1, rfl, rfl, hM, ho, hbel⟩ := hrel
        have HM := Lib.hid hM
        have HO := Lib.hid ho
        clear hM ho
        obtain ⟨g', cc', he, _, _, _, _, hcell, hfree⟩ := HO.out.form (by omega)
        simp only [Value.slice.injEq, Option.some.injEq, Addr.mk.injEq] at he
        obtain ⟨⟨rfl, q1⟩, q2⟩ := he
        clear q1 q2
        obtain ⟨xb, xo, rfl, xs, xe⟩ := HXA.out.formAt (by omega)
        by_cases hkt : k < lb
        · obtain ⟨yb, yo, rfl, ys, ye⟩ := HXB.out.formAt (by omega)
          have e1 := hcell (i + k) (by have := HN.out; omega)
          have f1 := hfree (i + k)
          have c1 := (hbel.cell (p := ⟨xb, xo + i, none⟩) xs).trans (xe i hlt)
          have c2 := (hbel.cell (p := ⟨yb, yo + k, none⟩) ys).trans (ye k hkt)
          obtain ⟨m0, m1, m2, m3, m4, m5⟩ := HM.out.bound
          have HST := Lib.hid (HM.out.step hlt hkt)
          have HST2 := Lib.hid (HST.out.2.2)
          have t0 := (HM.out.1 (i + k)).1
          have t1 := (HM.out.1 (i + k)).2
          obtain ⟨x0, x1⟩ := dg_bound (by decide : (0 : Int) < 65536) A i
          obtain ⟨y0, y1⟩ := dg_bound (by decide : (0 : Int) < 65536) B k
          clear hcell hfree xe ye
          have i0 : (0 : Int) ≤ (i : Int) + k := by omega
          have i1 : (i : Int) + k < n := by have := HN.out; omega
          have i2 : ((i : Int) + k).toNat = i + k := by omega
          have u0 := wrap_i64_id (x := (i : Int) + k) (by omega) (by omega)
          have u1 := wrap_i64_id (x := dg 65536 A i * dg 65536 B k) (by omega) (by omega)
          have u2 := wrap_i64_id (x := t (i + k) + dg 65536 A i * dg 65536 B k) (by omega) (by omega)
          have u3 := wrap_i64_id (x := t (i + k) + dg 65536 A i * dg 65536 B k + z) (by omega) (by omega)
          go_wp2
          go_quiet (fail)
          clear u1 u2 u3 u0
          go_wp2
          go_roundw
          case rel => exact ⟨k + 1, _, _, by omega, HST2.out.1, HST2.out.2.1, rfl, by go_num, HST.out, (HO.out.drewN _).store (i + k) _, (below_drewN hbel _).setCell (Nat.le_refl _) _⟩
          case measure => simp [intOf] <;> omega
        · obtain rfl : k = lb := by omega
          obtain ⟨r0, r1⟩ := HM.out.row hlt HB.out
          have R0 := Lib.hid r0
          have R1 := Lib.hid r1
          have hin : i + k < n := by have := HN.out; omega
          have e1 := hcell (i + k) hin
          have f1 := hfree (i + k)
          have i0 : (0 : Int) ≤ (i : Int) + k := by omega
          have i1 : (i : Int) + k < n := by omega
          have i2 : ((i : Int) + k).toNat = i + k := by omega
          have u0 := wrap_i64_id (x := (i : Int) + k) (by omega) (by omega)
          rw [R0.out] at e1
          clear hcell hfree r0 r1 xe
          go_wp2
          go_roundw
          case rel => exact ⟨i + 1, _, by omega, by go_num, R1.out, by rw [R0.out]; have := HO.out.store (i + k) z; rwa [show (0 : Int) + z = z by omega], hbel.setCell (Nat.le_refl _) _⟩
          case measure => simp [intOf] <;> omega
    · obtain rfl : i = la := by omega
      have HR := HO.out.congr (fun j hj => HM.out.done HA.out j (by have := HN.out; omega))
      go_wp2
      go_ret
      exact ⟨_, rfl, HR, hbel⟩

set_option maxRecDepth 100000 in
set_option maxHeartbeats 3200000 in
theorem rAbove_any (v : Value) (n e : Nat) (p X : Int) (hn : n ≤ 1000) (he : e + 1 ≤ n) (hp : 0 ≤ p ∧ p < 65536) (hX : 0 ≤ X ∧ X < 65536 ^ n) (w : World) (hv : Rd .i64 w v n (dg 65536 X)) :
    Calls Try.prog 55 #[v, .int .i64 p, .int .i64 e] w fun e' w' => e' = .returned (.bool (gtN 65536 p e X)) ∧ w = w' := by
  obtain ⟨g, hg⟩ : ∃ g, g = gtN 65536 p e X := ⟨_, rfl⟩
  obtain ⟨f, hf⟩ : ∃ f, f = dg 65536 X := ⟨_, rfl⟩
  have HFB : Hid (∀ i, 0 ≤ f i ∧ f i < 65536) := by rw [hf]; exact fun i => dg_bound (by decide) X i
  have HTOP : Hid (∀ j, e < j → 0 < f j → g = true) := by rw [hf, hg]; exact fun j h1 h2 => gt_top (by decide) hp.2 hX.1 h1 h2
  have HMID : Hid ((∀ j, e < j → j < n → f j = 0) → f e ≠ p → g = decide (p < f e)) := by rw [hf, hg]; exact fun h1 h2 => gt_mid (by decide) hX.1 (lt_down (by decide) hX.1 n he hX.2 h1) h2
  have HLOW : Hid ((∀ j, e < j → j < n → f j = 0) → f e = p → ∀ j, j < e → 0 < f j → g = true) := by rw [hf, hg]; exact fun h1 h2 j h3 h4 => gt_low (by decide) hX.1 (lt_down (by decide) hX.1 n he hX.2 h1) h2 h3 h4
  have HNO : Hid ((∀ j, e < j → j < n → f j = 0) → f e = p → (∀ j, j < e → f j = 0) → g = false) := by rw [hf, hg]; exact fun h1 h2 h3 => gt_none (by decide) hX.1 (lt_down (by decide) hX.1 n he hX.2 h1) h2 h3
  rw [← hg]
  rw [← hf] at hv
  obtain ⟨p0, p1⟩ := hp
  clear hX hf hg p1
  have HV := Lib.hid hv
  obtain ⟨a, c, rfl, h1, h2, _, _⟩ := hv
  obtain ⟨b, o, rfl, hb, hc⟩ := HV.out.formAt (by omega)
  have HC := Lib.hid hc
  clear hc
  go_enter Try.func55, Try.ntmps55
  go_wp2
  go_loop [7] (fun i => ∃ k : Nat, e ≤ k ∧ k < n ∧ i = .int .i64 k ∧ ∀ j, k < j → j < n → f j = 0) (fun i => (intOf i).toNat)
  case atStart => exact ⟨n - 1, by omega, by omega, by go_num, fun j h1 h2 => by omega⟩
  case round =>
    obtain ⟨k, hk0, hk, rfl, hz⟩ := hrel
    have HZ := Lib.hid hz
    clear hz
    by_cases hlt : e < k
    · obtain ⟨x, hx⟩ : ∃ x, x = f k := ⟨_, rfl⟩
      have HX := Lib.hid hx
      have ck : w.cell? ⟨b, o + k, none⟩ = some (.int .i64 x) := by rw [HX.out]; exact HC.out k hk
      have x0 : 0 ≤ x := by rw [HX.out]; exact (HFB.out _).1
      clear hx
      by_cases hpos : 0 < x
      · have HGT := Lib.hid (HTOP.out k hlt (by rw [← HX.out]; exact hpos))
        go_wp2
        go_ret
        exact ⟨by rw [HGT.out]; rfl, rfl⟩
      · have hz0 : Hid (x = 0) := by unfold Hid; omega
        go_wp2
        go_round
        case rel => exact ⟨k - 1, by omega, by omega, by go_num, fun j h1 h2 => by
          by_cases hjk : j = k
          · subst hjk; rw [← HX.out]; exact hz0.out
          · exact HZ.out j (by omega) h2⟩
        case measure => simp [intOf]; omega
    · obtain rfl : k = e := by omega
      have HZA := HZ
      obtain ⟨x, hx⟩ : ∃ x, x = f k := ⟨_, rfl⟩
      have HX := Lib.hid hx
      have ce : w.cell? ⟨b, o + k, none⟩ = some (.int .i64 x) := by rw [HX.out]; exact HC.out k hk
      clear hx
      by_cases hne : x = p
      · subst hne
        go_wp2
        clear ce
        go_loop [8] (fun i => ∃ m : Nat, m ≤ k ∧ i = .int .i64 m ∧ ∀ j, j < m → f j = 0) (fun i => k - (intOf i).toNat)
        case atStart => exact ⟨0, Nat.zero_le _, rfl, fun j h => absurd h (Nat.not_lt_zero _)⟩
        case round =>
          obtain ⟨m, hm, rfl, hz⟩ := hrel
          have HZ2 := Lib.hid hz
          clear hz
          by_cases hlt2 : m < k
          · obtain ⟨y, hy⟩ : ∃ y, y = f m := ⟨_, rfl⟩
            have HY := Lib.hid hy
            have ck : w.cell? ⟨b, o + m, none⟩ = some (.int .i64 y) := by rw [HY.out]; exact HC.out m (by omega)
            have y0 : 0 ≤ y := by rw [HY.out]; exact (HFB.out _).1
            clear hy
            by_cases hpos : 0 < y
            · have HGT := Lib.hid (HLOW.out HZA.out HX.out.symm m hlt2 (by rw [← HY.out]; exact hpos))
              go_wp2
              go_ret
              exact ⟨by rw [HGT.out]; rfl, rfl⟩
            · have hz0 : Hid (y = 0) := by unfold Hid; omega
              go_wp2
              go_round
              case rel => exact ⟨m + 1, by omega, by go_num, fun j hj => by
                by_cases hjk : j = m
                · subst hjk; rw [← HY.out]; exact hz0.out
                · exact HZ2.out j (by omega)⟩
              case measure => simp [intOf]; omega
          · obtain rfl : m = k := by omega
            have HGT := Lib.hid (HNO.out HZA.out HX.out.symm HZ2.out)
            go_wp2
            go_ret
            exact ⟨by rw [HGT.out]; rfl, rfl⟩
      · have HGT := Lib.hid (HMID.out HZA.out (by rw [← HX.out]; exact hne))
        go_wp2
        go_ret
        exact ⟨by rw [HGT.out, HX.out]; rfl, rfl⟩
end Go.Proofs.Ytgobodhcamgidaa
