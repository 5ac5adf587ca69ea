/-
  Numbers and their digits to a base: no program in sight.
-/
import Derived.Test.YtiiafgbdmejcpaaKit
namespace Go.Bas

/-- the number of the digits f 0 .. f (n-1), the lowest first. -/
def sm (B : Int) (f : Nat → Int) : Nat → Int
  | 0 => 0
  | n + 1 => sm B f n + f n * B ^ n
/-- digit i of a number. -/
def dg (B X : Int) (i : Nat) : Int := X / B ^ i % B

theorem pow_pos' {B : Int} (hB : 0 < B) (n : Nat) : 0 < B ^ n := Int.pow_pos hB
theorem dg_zero (B X : Int) : dg B X 0 = X % B := by simp [dg]
theorem div_succ {B : Int} (hB : 0 < B) (X : Int) (i : Nat) : X / B ^ (i + 1) = X / B ^ i / B := by
  rw [Int.pow_succ, Int.ediv_ediv_of_nonneg (Int.le_of_lt (pow_pos' hB i))]
theorem dg_bound {B : Int} (hB : 0 < B) (X : Int) (i : Nat) : 0 ≤ dg B X i ∧ dg B X i < B := ⟨Int.emod_nonneg _ (by omega), Int.emod_lt_of_pos _ hB⟩
theorem sm_congr {B : Int} {f g : Nat → Int} {n : Nat} (h : ∀ i, i < n → f i = g i) : sm B f n = sm B g n := by
  induction n with
  | zero => rfl
  | succ n ih => rw [sm, sm, ih fun i hi => h i (by omega), h n (by omega)]
theorem sm_bound {B : Int} (hB : 0 < B) {f : Nat → Int} {n : Nat} (h : ∀ i, i < n → 0 ≤ f i ∧ f i < B) : 0 ≤ sm B f n ∧ sm B f n < B ^ n := by
  induction n with
  | zero => simp [sm]
  | succ n ih =>
    have h1 := ih fun i hi => h i (by omega)
    have h2 := h n (by omega)
    have hp := pow_pos' hB n
    rw [sm, Int.pow_succ]
    constructor
    · have := Int.mul_nonneg h2.1 (Int.le_of_lt hp); omega
    · have h3 : f n * B ^ n ≤ (B - 1) * B ^ n := Int.mul_le_mul_of_nonneg_right (by omega) (Int.le_of_lt hp)
      rw [Int.sub_mul, Int.one_mul] at h3
      rw [Int.mul_comm (B ^ n) B]
      omega
/-- every number splits at a digit. -/
theorem split_at {B : Int} (X : Int) (n : Nat) : X = X % B ^ n + X / B ^ n * B ^ n := by
  have := Int.emod_add_mul_ediv X (B ^ n)
  rw [Int.mul_comm] at this
  omega
theorem mod_succ {B : Int} (hB : 0 < B) (X : Int) (n : Nat) : X % B ^ (n + 1) = X % B ^ n + dg B X n * B ^ n := by
  have h1 := split_at (B := B) X n
  have h2 := split_at (B := B) X (n + 1)
  have h3 := Int.emod_add_mul_ediv (X / B ^ n) B
  rw [div_succ hB] at h2
  unfold dg
  generalize X / B ^ n = q at *
  have : q * B ^ n = q % B * B ^ n + q / B * B ^ (n + 1) := by
    rw [Int.pow_succ]
    calc q * B ^ n = (q % B + B * (q / B)) * B ^ n := by rw [h3]
      _ = q % B * B ^ n + q / B * (B ^ n * B) := by rw [Int.add_mul]; congr 1; rw [Int.mul_comm B, Int.mul_assoc, Int.mul_comm B]
  omega
theorem sm_dg {B : Int} (hB : 0 < B) (X : Int) (n : Nat) : sm B (dg B X) n = X % B ^ n := by
  induction n with
  | zero => simp [sm, Int.emod_one]
  | succ n ih => rw [sm, ih, mod_succ hB]
theorem dg_add {B : Int} (hB : 0 < B) (X Y : Int) (n i : Nat) (h : i < n) : dg B (X + Y * B ^ n) i = dg B X i := by
  unfold dg
  obtain ⟨d, rfl⟩ := Nat.exists_eq_add_of_le h
  have hp := pow_pos' hB i
  rw [show B ^ (i.succ + d) = B ^ i * (B * B ^ d) by rw [← Int.pow_succ', ← Int.pow_add]; congr 1; omega]
  rw [show Y * (B ^ i * (B * B ^ d)) = Y * B ^ d * B * B ^ i by
    rw [Int.mul_comm (B ^ i), ← Int.mul_assoc, Int.mul_comm B, ← Int.mul_assoc]]
  rw [Int.add_mul_ediv_right _ _ (by omega), Int.add_mul_emod_self_right]
theorem dg_sm {B : Int} (hB : 0 < B) {f : Nat → Int} {n : Nat} (h : ∀ i, i < n → 0 ≤ f i ∧ f i < B) : ∀ i, i < n → dg B (sm B f n) i = f i := by
  induction n with
  | zero => intro i hi; omega
  | succ n ih =>
    intro i hi
    by_cases e : i = n
    · subst e
      have hb := sm_bound hB fun j hj => h j (Nat.lt_succ_of_lt hj)
      have hp := pow_pos' hB i
      rw [sm, dg, Int.add_mul_ediv_right _ _ (by omega), Int.ediv_eq_zero_of_lt hb.1 hb.2, Int.zero_add]
      exact Int.emod_eq_of_lt (h i hi).1 (h i hi).2
    · rw [sm, dg_add hB _ _ _ _ (by omega)]
      exact ih (fun j hj => h j (by omega)) i (by omega)
theorem dg_mod {B : Int} (hB : 0 < B) (X : Int) (n i : Nat) (h : i < n) : dg B (X % B ^ n) i = dg B X i := by
  conv => rhs; rw [split_at (B := B) X n]
  rw [dg_add hB _ _ _ _ h]
/-- digits tell the number. -/
theorem eq_of_dg {B : Int} (hB : 0 < B) {X Y : Int} {n : Nat} (hX : 0 ≤ X ∧ X < B ^ n) (hY : 0 ≤ Y ∧ Y < B ^ n) (h : ∀ i, i < n → dg B X i = dg B Y i) : X = Y := by
  have h1 := sm_dg hB X n
  have h2 := sm_dg hB Y n
  rw [sm_congr h, h2, Int.emod_eq_of_lt hY.1 hY.2, Int.emod_eq_of_lt hX.1 hX.2] at h1
  exact h1.symm
/-- two digits to the base B are one to the base B * B. -/
theorem dg_pair {B : Int} (hB : 0 < B) (X : Int) (i : Nat) : dg (B * B) X i = dg B X (2 * i) + dg B X (2 * i + 1) * B := by
  unfold dg
  rw [show (B * B) ^ i = B ^ (2 * i) by rw [show B * B = B ^ 2 by rw [Int.pow_succ, Int.pow_succ, Int.pow_zero, Int.one_mul], ← Int.pow_mul], div_succ hB X (2 * i)]
  generalize X / B ^ (2 * i) = q
  have h1 := Int.emod_add_mul_ediv q (B * B)
  have h2 := Int.emod_add_mul_ediv q B
  have h3 := Int.emod_add_mul_ediv (q / B) B
  have h4 : q / (B * B) = q / B / B := (Int.ediv_ediv_of_nonneg (Int.le_of_lt hB)).symm
  rw [h4, Int.mul_assoc] at h1
  have h5 : B * (q / B) = B * (q / B % B + B * (q / B / B)) := by rw [h3]
  rw [Int.mul_add] at h5
  rw [Int.mul_comm (q / B % B) B]
  omega
theorem pair16 (X : Int) (i : Nat) : dg 65536 X i = dg 256 X (2 * i) + dg 256 X (2 * i + 1) * 256 := dg_pair (B := 256) (by decide) X i
theorem byte0 (X : Int) (i : Nat) : dg 65536 X i % 256 = dg 256 X (2 * i) := by
  have h1 := pair16 X i
  have h2 := dg_bound (by decide : (0 : Int) < 256) X (2 * i)
  omega
theorem byte1 (X : Int) (i : Nat) : dg 65536 X i / 256 = dg 256 X (2 * i + 1) := by
  have h1 := pair16 X i
  have h2 := dg_bound (by decide : (0 : Int) < 256) X (2 * i)
  omega
theorem dg_small {B X : Int} {i : Nat} (h : 0 ≤ X ∧ X < B ^ i) : dg B X i = 0 := by
  unfold dg; rw [Int.ediv_eq_zero_of_lt h.1 h.2]; rfl
end Go.Bas
