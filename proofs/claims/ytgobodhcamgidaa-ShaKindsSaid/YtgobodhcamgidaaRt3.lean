/-
  sha.greater: what it answers. Conditions: named in each theorem.
-/
import Derived.Test.YtgobodhcamgidaaRt2
import Derived.Test.YtgobodhcamgidaaGt
set_option linter.unusedVariables false
set_option linter.unusedSimpArgs false
namespace Go.Proofs.Ytgobodhcamgidaa
open Go.RowKit Go.Bas
attribute [local go_sem ↓] Go.wp_at_zero Go.wp_at_succ

set_option maxRecDepth 100000 in
set_option maxHeartbeats 3200000 in
theorem greater_any (v : Value) (n e : Nat) (p X : Int) (hn : n ≤ 1000) (he : e + 1 ≤ n) (hp : 0 ≤ p ∧ p < 18446744073709551616) (hX : 0 ≤ X ∧ X < 18446744073709551616 ^ n) (w : World) (hv : Rd .u64 w v n (dg 18446744073709551616 X)) :
    Calls Try.prog 76 #[v, .int .u64 p, .int .i64 e] w fun e' w' => e' = .returned (.bool (gtN 18446744073709551616 p e X)) ∧ w = w' := by
  obtain ⟨g, hg⟩ : ∃ g, g = gtN 18446744073709551616 p e X := ⟨_, rfl⟩
  obtain ⟨f, hf⟩ : ∃ f, f = dg 18446744073709551616 X := ⟨_, rfl⟩
  have HFB : Hid (∀ i, 0 ≤ f i ∧ f i < 18446744073709551616) := by rw [hf]; exact fun i => dg_bound (by decide) X i
  have HTOP : Hid (∀ j, e < j → 0 < f j → g = true) := by rw [hf, hg]; exact fun j h1 h2 => gt_top (by decide) hp.2 hX.1 h1 h2
  have HMID : Hid ((∀ j, e < j → j < n → f j = 0) → f e ≠ p → g = decide (p < f e)) := by rw [hf, hg]; exact fun h1 h2 => gt_mid (by decide) hX.1 (lt_down (by decide) hX.1 n he hX.2 h1) h2
  have HLOW : Hid ((∀ j, e < j → j < n → f j = 0) → f e = p → ∀ j, j < e → 0 < f j → g = true) := by rw [hf, hg]; exact fun h1 h2 j h3 h4 => gt_low (by decide) hX.1 (lt_down (by decide) hX.1 n he hX.2 h1) h2 h3 h4
  have HNO : Hid ((∀ j, e < j → j < n → f j = 0) → f e = p → (∀ j, j < e → f j = 0) → g = false) := by rw [hf, hg]; exact fun h1 h2 h3 => gt_none (by decide) hX.1 (lt_down (by decide) hX.1 n he hX.2 h1) h2 h3
  rw [← hg]
  rw [← hf] at hv
  obtain ⟨p0, p1⟩ := hp
  clear hX hf hg p1
  have HV := Lib.hid hv
  obtain ⟨a, c, rfl, h1, h2, _, _⟩ := hv
  obtain ⟨m, hm⟩ : ∃ m, m = n - (e + 1) := ⟨_, rfl⟩
  obtain ⟨la, k1, k2, k3⟩ := Rd.cut Try.underlying46 Try.info36 a n c (e + 1) n he (Nat.le_refl _) h1
  rw [← hm] at k1 k2 k3
  obtain ⟨g1, g2⟩ := Rd.head Try.underlying46 Try.info36 a n c e (by omega) h1
  have hr1 : ∀ w, (Instr.sliceAt 46 (.slice a n c) (some (.int .i64 ((e : Int) + 1))) none none).run Try.prog w = .ok (.slice la m (c - (e + 1))) w := by simpa using k2
  have T1 := Lib.hid (k3 _ _ HV.out).2
  have T2 := Lib.hid (g2 _ _ HV.out)
  have HM := Lib.hid hm
  have G1 := Lib.hid g1
  obtain ⟨b, o, rfl, hb, hc⟩ := HV.out.formAt (by omega)
  have ce : w.cell? ⟨b, o + e, none⟩ = some (.int .u64 (f e)) := hc e (by omega)
  have CE := Lib.hid ce
  have hml : m ≤ 1000 := by omega
  have x0 := (HFB.out e).1
  clear k1 k2 k3 g1 g2 hm hc ce
  go_enter Try.func76, Try.ntmps76
  go_wp2
  clear hr1
  go_loop [16] (fun i => ∃ k : Nat, k ≤ m ∧ i = .int .i64 k ∧ ∀ j, j < k → f (e + 1 + j) = 0) (fun i => m - (intOf i).toNat)
  case atStart => exact ⟨0, Nat.zero_le _, rfl, fun j h => absurd h (Nat.not_lt_zero _)⟩
  case round =>
    obtain ⟨k, hk, rfl, hz⟩ := hrel
    have HZ := Lib.hid hz
    clear hz
    by_cases hlt : k < m
    · obtain ⟨lb, lo, rfl, ls, lc⟩ := T1.out.formAt (by omega)
      obtain ⟨x, hx⟩ : ∃ x, x = f (e + 1 + k) := ⟨_, rfl⟩
      have HX := Lib.hid hx
      have ck : w.cell? ⟨lb, lo + k, none⟩ = some (.int .u64 x) := by rw [HX.out]; exact lc k hlt
      have x0 : 0 ≤ x := by rw [HX.out]; exact (HFB.out _).1
      clear hx lc
      by_cases hpos : 0 < x
      · have hgt := HTOP.out (e + 1 + k) (by omega) (by rw [← HX.out]; exact hpos)
        have HGT := Lib.hid hgt
        clear hgt
        go_wp2
        go_ret
        exact ⟨by rw [HGT.out]; rfl, rfl⟩
      · have hz0 : Hid (x = 0) := by unfold Hid; omega
        go_wp2
        go_round
        case rel => exact ⟨k + 1, by omega, by go_num, fun j hj => by
          by_cases hjk : j = k
          · subst hjk; rw [← HX.out]; exact hz0.out
          · exact HZ.out j (by omega)⟩
        case measure => simp [intOf]; omega
    · obtain rfl : k = m := by omega
      have HZA : Hid (∀ j, e < j → j < n → f j = 0) := fun j h1 h2 => by
        have := HZ.out (j - (e + 1)) (by have := HM.out; omega)
        rwa [show e + 1 + (j - (e + 1)) = j by omega] at this
      obtain ⟨x, hx⟩ : ∃ x, x = f e := ⟨_, rfl⟩
      have HX := Lib.hid hx
      have ce := CE.out
      rw [← hx] at ce x0
      have hr2 := G1.out
      clear hx
      by_cases hne : x = p
      · subst hne
        go_wp2
        clear hr2 ce
        go_loop [39] (fun i => ∃ k : Nat, k ≤ e ∧ i = .int .i64 k ∧ ∀ j, j < k → f j = 0) (fun i => e - (intOf i).toNat)
        case atStart => exact ⟨0, Nat.zero_le _, rfl, fun j h => absurd h (Nat.not_lt_zero _)⟩
        case round =>
          obtain ⟨k, hk2, rfl, hz⟩ := hrel
          have HZ2 := Lib.hid hz
          clear hz
          by_cases hlt2 : k < e
          · obtain ⟨lb, lo, hlb, ls, lc⟩ := T2.out.formAt (by omega)
            obtain ⟨y, hy⟩ : ∃ y, y = f k := ⟨_, rfl⟩
            have HY := Lib.hid hy
            simp only [Option.some.injEq, Addr.mk.injEq, and_true] at hlb
            obtain ⟨rfl, rfl⟩ := hlb
            have ck : w.cell? ⟨b, o + k, none⟩ = some (.int .u64 y) := by rw [HY.out]; exact lc k hlt2
            have y0 : 0 ≤ y := by rw [HY.out]; exact (HFB.out _).1
            clear hy lc
            by_cases hpos : 0 < y
            · have HGT := Lib.hid (HLOW.out HZA.out HX.out.symm k hlt2 (by rw [← HY.out]; exact hpos))
              go_wp2
              go_ret
              exact ⟨by rw [HGT.out]; rfl, rfl⟩
            · have hz0 : Hid (y = 0) := by unfold Hid; omega
              go_wp2
              go_round
              case rel => exact ⟨k + 1, by omega, by go_num, fun j hj => by
                by_cases hjk : j = k
                · subst hjk; rw [← HY.out]; exact hz0.out
                · exact HZ2.out j (by omega)⟩
              case measure => simp [intOf]; omega
          · obtain rfl : k = e := by omega
            have HGT := Lib.hid (HNO.out HZA.out HX.out.symm HZ2.out)
            go_wp2
            go_ret
            exact ⟨by rw [HGT.out]; rfl, rfl⟩
      · have HGT := Lib.hid (HMID.out HZA.out (by rw [← HX.out]; exact hne))
        go_wp2
        go_ret
        exact ⟨by rw [HGT.out, HX.out]; rfl, rfl⟩
end Go.Proofs.Ytgobodhcamgidaa
