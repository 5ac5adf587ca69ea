/-
  The field modulo two to the 255 less 19: powers, inverses, roots. No program in sight.
-/
import Derived.Test.YtllkfkbioloaoaaFeN
import Derived.Test.YtllkfkbioloaoaaPrime
set_option linter.unusedVariables false
set_option linter.unusedSimpArgs false
namespace Go.Bas

theorem Pr_PN : Pr = (PN : Int) := by decide
theorem int_pow_mod (X : Int) (n : Nat) : X ^ n % Pr = (X % Pr) ^ n % Pr := by
  induction n with
  | zero => rw [Int.pow_zero, Int.pow_zero]
  | succ n ih => rw [Int.pow_succ, Int.pow_succ, Int.mul_emod, ih, Int.mul_emod ((X % Pr) ^ n), Int.emod_emod_of_dvd _ (Int.dvd_refl Pr)]
theorem int_pow_nat (x n : Nat) : ((x : Int) ^ n) % Pr = ((x ^ n % PN : Nat) : Int) := by rw [Pr_PN, Int.natCast_emod, Int.natCast_pow]
/-- a number's rest, as a natural number. -/
theorem rest_nat (X : Int) : ∃ x : Nat, X % Pr = (x : Int) ∧ x < PN ∧ (X % Pr ≠ 0 → ¬ PN ∣ x) := by
  have h0 : 0 ≤ X % Pr := Int.emod_nonneg _ (by decide)
  have h1 : X % Pr < Pr := Int.emod_lt_of_pos _ (by decide)
  refine ⟨(X % Pr).toNat, by omega, by rw [Pr_PN] at *; omega, fun hne hd => ?_⟩
  have hlt : (X % Pr).toNat < PN := by rw [Pr_PN] at *; omega
  have := Nat.eq_zero_of_dvd_of_lt hd hlt
  omega
/-- Fermat in the field. -/
theorem fermat_Pr {X : Int} (h : X % Pr ≠ 0) : X ^ (PN - 1) % Pr = 1 := by
  obtain ⟨x, hx, hlt, hd⟩ := rest_nat X
  rw [int_pow_mod, hx, int_pow_nat, prime_PN.fermat1 (hd h)]
  rfl
/-- no two numbers make 0 but where one is. -/
theorem mul_zero_Pr {X Y : Int} (h : X * Y % Pr = 0) : X % Pr = 0 ∨ Y % Pr = 0 := by
  obtain ⟨x, hx, hlt, hd⟩ := rest_nat X
  obtain ⟨y, hy, hlt2, hd2⟩ := rest_nat Y
  have h1 : PN ∣ x * y := by
    rw [Int.mul_emod, hx, hy, Pr_PN, ← Int.natCast_mul, ← Int.natCast_emod] at h
    exact Nat.dvd_of_mod_eq_zero (by omega)
  rcases prime_PN.dvd_mul h1 with h2 | h2
  · left
    by_cases e : X % Pr = 0
    · exact e
    · exact absurd h2 (hd e)
  · right
    by_cases e : Y % Pr = 0
    · exact e
    · exact absurd h2 (hd2 e)
theorem modP_eq {A B : Int} (h : A = B) : A % Pr = B % Pr := by rw [h]
theorem sub_zero_Pr {A B : Int} (h : (A - B) % Pr = 0) : A % Pr = B % Pr := by
  have h1 := Int.emod_add_mul_ediv (A - B) Pr
  rw [h] at h1
  exact mod_eq_of (c := (A - B) / Pr) (by omega)
theorem zero_of_eq {A B : Int} (h : A % Pr = B % Pr) : (A - B) % Pr = 0 := by
  rw [Int.sub_emod, h, Int.sub_self]; rfl
/-- the inverse: to the power of the prime less 2. -/
theorem inv_Pr {X : Int} (h : X % Pr ≠ 0) : X ^ (PN - 2) * X % Pr = 1 := by
  rw [← Int.pow_succ, show (PN - 2).succ = PN - 1 by decide]; exact fermat_Pr h
theorem inv_zero {X : Int} (h : X % Pr = 0) : X ^ (PN - 2) % Pr = 0 := by
  rw [int_pow_mod, h, Int.zero_pow (by decide)]; rfl
/-- two to the (p - 1) / 2 is -1. -/
theorem two_half : (2 : Int) ^ ((PN - 1) / 2) % Pr = Pr - 1 := by
  have h := int_pow_nat 2 ((PN - 1) / 2)
  have h2 : 2 ^ ((PN - 1) / 2) % PN = PN - 1 := by
    have h3 := powmod_eq PN 256 2 ((PN - 1) / 2) 1 (by decide)
    rw [Nat.one_mul] at h3
    rw [← h3]
    decide +kernel
  rw [h2] at h
  rw [show ((2 : Nat) : Int) = 2 from rfl] at h
  rw [h, Pr_PN]
  decide
/-- Euler's power, the candidate for a root, and the root of -1. -/
def sqN (X : Int) : Int := X ^ ((PN - 1) / 2)
def rtN (X : Int) : Int := X ^ ((PN + 3) / 8)
def im1 : Int := 2 ^ ((PN - 1) / 4)
/-- is a number a square? by Euler. -/
def isSq (X : Int) : Bool := decide (X % Pr = 0) || decide (sqN X % Pr = 1)
theorem pow_mul_two (X : Int) (a b : Nat) (h : b = a + a) : X ^ b = X ^ a * X ^ a := by rw [h, Int.pow_add]
theorem im1_sq : im1 * im1 % Pr = Pr - 1 := by
  have h := two_half
  rw [pow_mul_two 2 ((PN - 1) / 4) ((PN - 1) / 2) (by decide)] at h
  exact h
theorem mul_cancel {A B C : Int} (h : A % Pr = B % Pr) : A * C % Pr = B * C % Pr := by rw [Int.mul_emod, h, ← Int.mul_emod]
theorem mul_cancel' {A B C : Int} (h : A % Pr = B % Pr) : C * A % Pr = C * B % Pr := by rw [Int.mul_emod, h, ← Int.mul_emod]
/-- the candidate's fourth power. -/
theorem rt_four (X : Int) : rtN X * rtN X * (rtN X * rtN X) = X * X * sqN X := by
  have e1 : rtN X * rtN X = X ^ ((PN + 3) / 8 + (PN + 3) / 8) := by unfold rtN; rw [Int.pow_add]
  have e2 : X * X * sqN X = X ^ (2 + (PN - 1) / 2) := by
    unfold sqN
    rw [Int.pow_add, Int.pow_succ, Int.pow_succ, Int.pow_zero, Int.one_mul]
  rw [e1, e2, ← Int.pow_add]
  congr 1
theorem rt_cases {X : Int} (h : isSq X = true) : rtN X * rtN X % Pr = X % Pr ∨ rtN X * im1 * (rtN X * im1) % Pr = X % Pr := by
  unfold isSq at h
  rw [Bool.or_eq_true, decide_eq_true_eq, decide_eq_true_eq] at h
  rcases h with h | h
  · left
    have h1 : rtN X % Pr = 0 := by unfold rtN; rw [int_pow_mod, h, Int.zero_pow (by decide)]; rfl
    rw [Int.mul_emod, h1, h]; rfl
  · have h4 := rt_four X
    generalize rtN X = R at *
    have h5 : (R * R * (R * R)) % Pr = (X * X) % Pr := by
      rw [h4, Int.mul_emod, h, Int.mul_one, Int.emod_emod_of_dvd _ (Int.dvd_refl Pr)]
    have h6 : ((R * R - X) * (R * R + X)) % Pr = 0 := by
      rw [show (R * R - X) * (R * R + X) = R * R * (R * R) - X * X by grind]
      exact zero_of_eq h5
    rcases mul_zero_Pr h6 with h7 | h7
    · exact .inl (sub_zero_Pr h7)
    · right
      have h8 : (R * R) % Pr = (-X) % Pr := sub_zero_Pr (by rw [show R * R - -X = R * R + X by omega]; exact h7)
      have h9 : im1 * im1 % Pr = (-1) % Pr := im1_sq.trans (by decide)
      rw [show R * im1 * (R * im1) = R * R * (im1 * im1) by grind, mul_cancel h8, mul_cancel' h9, show -X * -1 = X by omega]
theorem rt_none {X : Int} (h : isSq X = false) (R : Int) : ¬ R * R % Pr = X % Pr := by
  intro hR
  unfold isSq at h
  rw [Bool.or_eq_false_iff, decide_eq_false_iff_not, decide_eq_false_iff_not] at h
  have hR0 : R % Pr ≠ 0 := by
    intro h0
    apply h.1
    rw [← hR, Int.mul_emod, h0]; rfl
  apply h.2
  unfold sqN
  rw [int_pow_mod, ← hR, ← int_pow_mod]
  have e : (R * R) ^ ((PN - 1) / 2) = R ^ (PN - 1) := by
    rw [show R * R = R ^ 2 by rw [Int.pow_succ, Int.pow_succ, Int.pow_zero, Int.one_mul], ← Int.pow_mul]
    congr 1
  rw [e]
  exact fermat_Pr hR0
theorem sq_isSq {X R : Int} (h : R * R % Pr = X % Pr) : isSq X = true := by
  cases hs : isSq X with
  | true => rfl
  | false => exact absurd h (rt_none hs R)
/-- the negative of an odd rest is even. -/
theorem neg_even {R : Int} (h : R % Pr % 2 = 1) : -R % Pr % 2 = 0 := by
  have h0 : 0 ≤ R % Pr := Int.emod_nonneg _ (by decide)
  have h1 : R % Pr < Pr := Int.emod_lt_of_pos _ (by decide)
  have hodd : Pr % 2 = 1 := by decide
  have e : -R % Pr = Pr - R % Pr := by
    have h2 := Int.emod_add_mul_ediv R Pr
    rw [show -R = Pr - R % Pr + Pr * (-(R / Pr) - 1) by rw [Int.mul_sub, Int.mul_neg]; omega, Int.add_mul_emod_self_left]
    exact Int.emod_eq_of_lt (by omega) (by omega)
  rw [e]; omega
/-- a square's roots. -/
theorem two_roots {R X : Int} (h : R * R % Pr = X * X % Pr) : R % Pr = X % Pr ∨ R % Pr = -X % Pr := by
  have h6 : ((R - X) * (R + X)) % Pr = 0 := by
    rw [show (R - X) * (R + X) = R * R - X * X by grind]
    exact zero_of_eq h
  rcases mul_zero_Pr h6 with h7 | h7
  · exact .inl (sub_zero_Pr h7)
  · exact .inr (sub_zero_Pr (by rw [show R - -X = R + X by omega]; exact h7))
end Go.Bas
