/-
  A number of digits held against p times the base to the e: by its digits. No program in sight.
-/
import Derived.Test.YtgobodhcamgidaaNum
set_option linter.unusedVariables false
set_option linter.unusedSimpArgs false
namespace Go.Bas
/-- whether X is above p times the base to the e. -/
def gtN (B p : Int) (e : Nat) (X : Int) : Bool := decide (p * B ^ e < X)
variable {B p X : Int} {e n j : Nat}
theorem pow_le' (hB : 1 ≤ B) {i j : Nat} (h : i ≤ j) : B ^ i ≤ B ^ j := pow_mono B hB i j h
theorem gt_top (hB : 1 < B) (hp : p < B) (h0 : 0 ≤ X) (hj : e < j) (h : 0 < dg B X j) : gtN B p e X = true := by
  unfold gtN
  rw [decide_eq_true_eq]
  have hpj : 0 < B ^ j := Int.pow_pos (by omega)
  have hpe : 0 < B ^ e := Int.pow_pos (by omega)
  have h1 : B ^ j ≤ X := by
    apply Classical.byContradiction
    intro hc
    have : X / B ^ j = 0 := Int.ediv_eq_zero_of_lt h0 (by omega)
    unfold dg at h
    rw [this] at h
    simp at h
  have h2 : B ^ (e + 1) ≤ B ^ j := pow_le' (by omega) hj
  rw [Int.pow_succ, Int.mul_comm] at h2
  have h3 : p * B ^ e < B * B ^ e := Int.mul_lt_mul_of_pos_right hp hpe
  omega
theorem lt_down (hB : 1 < B) (h0 : 0 ≤ X) : ∀ n, e + 1 ≤ n → X < B ^ n → (∀ j, e < j → j < n → dg B X j = 0) → X < B ^ (e + 1) := by
  intro n
  induction n with
  | zero => intro h; omega
  | succ n ih =>
    intro hn hX hz
    by_cases c : e + 1 = n + 1
    · rw [c]; exact hX
    · refine ih (by omega) ?_ (fun j a b => hz j a (by omega))
      have h1 := hz n (by omega) (by omega)
      have hpn : 0 < B ^ n := Int.pow_pos (by omega)
      rw [Int.pow_succ, Int.mul_comm] at hX
      have h2 : X / B ^ n < B := Int.ediv_lt_of_lt_mul hpn hX
      have h3 : 0 ≤ X / B ^ n := Int.ediv_nonneg h0 (by omega)
      unfold dg at h1
      rw [Int.emod_eq_of_lt h3 h2] at h1
      have h4 := Int.emod_add_mul_ediv X (B ^ n)
      have h5 := Int.emod_lt_of_pos X hpn
      rw [h1, Int.mul_zero] at h4
      omega
theorem gt_parts (hB : 1 < B) (h0 : 0 ≤ X) (h1 : X < B ^ (e + 1)) : dg B X e = X / B ^ e ∧ X = X % B ^ e + B ^ e * (X / B ^ e) ∧ 0 ≤ X % B ^ e ∧ X % B ^ e < B ^ e := by
  have hpe : 0 < B ^ e := Int.pow_pos (by omega)
  rw [Int.pow_succ, Int.mul_comm] at h1
  have h2 : X / B ^ e < B := Int.ediv_lt_of_lt_mul hpe h1
  have h3 : 0 ≤ X / B ^ e := Int.ediv_nonneg h0 (by omega)
  exact ⟨by unfold dg; rw [Int.emod_eq_of_lt h3 h2], (Int.emod_add_mul_ediv X (B ^ e)).symm, Int.emod_nonneg _ (by omega), Int.emod_lt_of_pos _ hpe⟩
theorem gt_mid (hB : 1 < B) (h0 : 0 ≤ X) (h1 : X < B ^ (e + 1)) (hne : dg B X e ≠ p) : gtN B p e X = decide (p < dg B X e) := by
  obtain ⟨a, b, c, d⟩ := gt_parts hB h0 h1
  have hpe : 0 < B ^ e := Int.pow_pos (by omega)
  rw [a] at hne ⊢
  unfold gtN
  generalize X / B ^ e = q at *
  generalize X % B ^ e = r at *
  generalize B ^ e = P at *
  rw [b, Int.mul_comm P q]
  by_cases h : p < q
  · rw [decide_eq_true h, decide_eq_true_eq]
    have := Int.mul_lt_mul_of_pos_right h hpe
    omega
  · rw [decide_eq_false h, decide_eq_false_iff_not]
    have := Int.mul_le_mul_of_nonneg_right (show q + 1 ≤ p by omega) (Int.le_of_lt hpe)
    rw [Int.add_mul] at this
    omega
theorem gt_low (hB : 1 < B) (h0 : 0 ≤ X) (h1 : X < B ^ (e + 1)) (he : dg B X e = p) (hj : j < e) (h : 0 < dg B X j) : gtN B p e X = true := by
  obtain ⟨a, b, c, d⟩ := gt_parts hB h0 h1
  rw [a] at he
  unfold gtN
  rw [decide_eq_true_eq, ← he]
  have hr : X % B ^ e ≠ 0 := by
    intro hz
    unfold dg at h
    have e1 : B ^ e = B ^ j * B ^ (e - j) := by rw [← Int.pow_add, show j + (e - j) = e by omega]
    obtain ⟨q, hq⟩ := Int.dvd_of_emod_eq_zero hz
    have e2 : B ^ (e - j) = B * B ^ (e - j - 1) := by rw [show e - j = (e - j - 1) + 1 by omega, Int.pow_succ, Int.mul_comm]; simp
    rw [hq, e1, Int.mul_assoc, Int.mul_ediv_cancel_left _ (Int.ne_of_gt (Int.pow_pos (by omega))), e2, Int.mul_assoc, Int.mul_emod_right] at h
    omega
  rw [Int.mul_comm]
  omega
theorem gt_none (hB : 1 < B) (h0 : 0 ≤ X) (h1 : X < B ^ (e + 1)) (he : dg B X e = p) (hz : ∀ j, j < e → dg B X j = 0) : gtN B p e X = false := by
  obtain ⟨a, b, c, d⟩ := gt_parts hB h0 h1
  rw [a] at he
  unfold gtN
  rw [decide_eq_false_iff_not, ← he]
  have hr : X % B ^ e = 0 := by
    have key : ∀ m, m ≤ e → X % B ^ m = 0 := by
      intro m
      induction m with
      | zero => intro _; simp [Int.emod_one]
      | succ m ih =>
        intro hm
        rw [mod_succ (by omega) X m, ih (by omega), hz m (by omega)]
        simp
    exact key e (Nat.le_refl _)
  rw [Int.mul_comm]
  omega
end Go.Bas
