/-
  The field modulo two to the 255 less 19: powers, inverses, roots. No program in sight.
-/
import Derived.Test.YtjmagojmfiabfaaFeN
import Derived.Test.YtjmagojmfiabfaaPrime
namespace Go.Bas

theorem Pr_PN : Pr = (PN : Int) := by decide
theorem int_pow_mod (X : Int) (n : Nat) : X ^ n % Pr = (X % Pr) ^ n % Pr := by
  induction n with
  | zero => rw [Int.pow_zero, Int.pow_zero]
  | succ n ih => rw [Int.pow_succ, Int.pow_succ, Int.mul_emod, ih, Int.mul_emod ((X % Pr) ^ n), Int.emod_emod_of_dvd _ (Int.dvd_refl Pr)]
theorem int_pow_nat (x n : Nat) : ((x : Int) ^ n) % Pr = ((x ^ n % PN : Nat) : Int) := by rw [Pr_PN, Int.natCast_emod, Int.natCast_pow]
/-- a number's rest, as a natural number. -/
theorem rest_nat (X : Int) : ∃ x : Nat, X % Pr = (x : Int) ∧ x < PN ∧ (X % Pr ≠ 0 → ¬ PN ∣ x) := by
  have h0 : 0 ≤ X % Pr := Int.emod_nonneg _ (by decide)
  have h1 : X % Pr < Pr := Int.emod_lt_of_pos _ (by decide)
  refine ⟨(X % Pr).toNat, by omega, by rw [Pr_PN] at *; omega, fun hne hd => ?_⟩
  have hlt : (X % Pr).toNat < PN := by rw [Pr_PN] at *; omega
  have := Nat.eq_zero_of_dvd_of_lt hd hlt
  omega
/-- Fermat in the field. -/
theorem fermat_Pr {X : Int} (h : X % Pr ≠ 0) : X ^ (PN - 1) % Pr = 1 := by
  obtain ⟨x, hx, hlt, hd⟩ := rest_nat X
  rw [int_pow_mod, hx, int_pow_nat, prime_PN.fermat1 (hd h)]
  rfl
/-- no two numbers make 0 but where one is. -/
theorem mul_zero_Pr {X Y : Int} (h : X * Y % Pr = 0) : X % Pr = 0 ∨ Y % Pr = 0 := by
  obtain ⟨x, hx, hlt, hd⟩ := rest_nat X
  obtain ⟨y, hy, hlt2, hd2⟩ := rest_nat Y
  have h1 : PN ∣ x * y := by
    rw [Int.mul_emod, hx, hy, Pr_PN, ← Int.natCast_mul, ← Int.natCast_emod] at h
    exact Nat.dvd_of_mod_eq_zero (by omega)
  rcases prime_PN.dvd_mul h1 with h2 | h2
  · left
    by_cases e : X % Pr = 0
    · exact e
    · exact absurd h2 (hd e)
  · right
    by_cases e : Y % Pr = 0
    · exact e
    · exact absurd h2 (hd2 e)
theorem modP_eq {A B : Int} (h : A = B) : A % Pr = B % Pr := by rw [h]
theorem sub_zero_Pr {A B : Int} (h : (A - B) % Pr = 0) : A % Pr = B % Pr := by
  have h1 := Int.emod_add_mul_ediv (A - B) Pr
  rw [h] at h1
  exact mod_eq_of (c := (A - B) / Pr) (by omega)
theorem zero_of_eq {A B : Int} (h : A % Pr = B % Pr) : (A - B) % Pr = 0 := by
  rw [Int.sub_emod, h, Int.sub_self]; rfl
/-- the inverse: to the power of the prime less 2. -/
theorem inv_Pr {X : Int} (h : X % Pr ≠ 0) : X ^ (PN - 2) * X % Pr = 1 := by
  rw [← Int.pow_succ, show (PN - 2).succ = PN - 1 by decide]; exact fermat_Pr h
theorem inv_zero {X : Int} (h : X % Pr = 0) : X ^ (PN - 2) % Pr = 0 := by
  rw [int_pow_mod, h, Int.zero_pow (by decide)]; rfl
/-- two to the (p - 1) / 2 is -1. -/
theorem two_half : (2 : Int) ^ ((PN - 1) / 2) % Pr = Pr - 1 := by
  have h := int_pow_nat 2 ((PN - 1) / 2)
  have h2 : 2 ^ ((PN - 1) / 2) % PN = PN - 1 := by
    have h3 := powmod_eq PN 256 2 ((PN - 1) / 2) 1 (by decide)
    rw [Nat.one_mul] at h3
    rw [← h3]
    decide +kernel
  rw [h2] at h
  rw [show ((2 : Nat) : Int) = 2 from rfl] at h
  rw [h, Pr_PN]
  decide
/-- is a number a square? by Euler. -/
def isSq (X : Int) : Bool := decide (X % Pr = 0) || decide (X ^ ((PN - 1) / 2) % Pr = 1)
end Go.Bas
