/-
  Numbers and their digits to a base: no program in sight.
  Carries and borrows between digits to the base 65536. No program in sight.
  The digits of a product, row by row with a carry: no program in sight.
  Two slices of the call's own beside one another: where an append lays its result. No program in sight.
  Numbers modulo two to the 130 less 5, in parts of eight bits. No program in sight.
-/
import Derived.Test.YtlmdgmgbijfaoaaKit
set_option linter.unusedVariables false
set_option linter.unusedSimpArgs false
namespace Go.Bas

/-- the number of the digits f 0 .. f (n-1), the lowest first. -/
def sm (B : Int) (f : Nat → Int) : Nat → Int
  | 0 => 0
  | n + 1 => sm B f n + f n * B ^ n
/-- digit i of a number. -/
def dg (B X : Int) (i : Nat) : Int := X / B ^ i % B

theorem pow_pos' {B : Int} (hB : 0 < B) (n : Nat) : 0 < B ^ n := Int.pow_pos hB
theorem dg_zero (B X : Int) : dg B X 0 = X % B := by simp [dg]
theorem div_succ {B : Int} (hB : 0 < B) (X : Int) (i : Nat) : X / B ^ (i + 1) = X / B ^ i / B := by
  rw [Int.pow_succ, Int.ediv_ediv_of_nonneg (Int.le_of_lt (pow_pos' hB i))]
theorem dg_bound {B : Int} (hB : 0 < B) (X : Int) (i : Nat) : 0 ≤ dg B X i ∧ dg B X i < B := ⟨Int.emod_nonneg _ (by omega), Int.emod_lt_of_pos _ hB⟩
theorem sm_congr {B : Int} {f g : Nat → Int} {n : Nat} (h : ∀ i, i < n → f i = g i) : sm B f n = sm B g n := by
  induction n with
  | zero => rfl
  | succ n ih => rw [sm, sm, ih fun i hi => h i (by omega), h n (by omega)]
theorem sm_bound {B : Int} (hB : 0 < B) {f : Nat → Int} {n : Nat} (h : ∀ i, i < n → 0 ≤ f i ∧ f i < B) : 0 ≤ sm B f n ∧ sm B f n < B ^ n := by
  induction n with
  | zero => simp [sm]
  | succ n ih =>
    have h1 := ih fun i hi => h i (by omega)
    have h2 := h n (by omega)
    have hp := pow_pos' hB n
    rw [sm, Int.pow_succ]
    constructor
    · have := Int.mul_nonneg h2.1 (Int.le_of_lt hp); omega
    · have h3 : f n * B ^ n ≤ (B - 1) * B ^ n := Int.mul_le_mul_of_nonneg_right (by omega) (Int.le_of_lt hp)
      rw [Int.sub_mul, Int.one_mul] at h3
      rw [Int.mul_comm (B ^ n) B]
      omega
/-- every number splits at a digit. -/
theorem split_at {B : Int} (X : Int) (n : Nat) : X = X % B ^ n + X / B ^ n * B ^ n := by
  have := Int.emod_add_mul_ediv X (B ^ n)
  rw [Int.mul_comm] at this
  omega
theorem mod_succ {B : Int} (hB : 0 < B) (X : Int) (n : Nat) : X % B ^ (n + 1) = X % B ^ n + dg B X n * B ^ n := by
  have h1 := split_at (B := B) X n
  have h2 := split_at (B := B) X (n + 1)
  have h3 := Int.emod_add_mul_ediv (X / B ^ n) B
  rw [div_succ hB] at h2
  unfold dg
  generalize X / B ^ n = q at *
  have : q * B ^ n = q % B * B ^ n + q / B * B ^ (n + 1) := by
    rw [Int.pow_succ]
    calc q * B ^ n = (q % B + B * (q / B)) * B ^ n := by rw [h3]
      _ = q % B * B ^ n + q / B * (B ^ n * B) := by rw [Int.add_mul]; congr 1; rw [Int.mul_comm B, Int.mul_assoc, Int.mul_comm B]
  omega
theorem sm_dg {B : Int} (hB : 0 < B) (X : Int) (n : Nat) : sm B (dg B X) n = X % B ^ n := by
  induction n with
  | zero => simp [sm, Int.emod_one]
  | succ n ih => rw [sm, ih, mod_succ hB]
theorem dg_add {B : Int} (hB : 0 < B) (X Y : Int) (n i : Nat) (h : i < n) : dg B (X + Y * B ^ n) i = dg B X i := by
  unfold dg
  obtain ⟨d, rfl⟩ := Nat.exists_eq_add_of_le h
  have hp := pow_pos' hB i
  rw [show B ^ (i.succ + d) = B ^ i * (B * B ^ d) by rw [← Int.pow_succ', ← Int.pow_add]; congr 1; omega]
  rw [show Y * (B ^ i * (B * B ^ d)) = Y * B ^ d * B * B ^ i by
    rw [Int.mul_comm (B ^ i), ← Int.mul_assoc, Int.mul_comm B, ← Int.mul_assoc]]
  rw [Int.add_mul_ediv_right _ _ (by omega), Int.add_mul_emod_self_right]
theorem dg_sm {B : Int} (hB : 0 < B) {f : Nat → Int} {n : Nat} (h : ∀ i, i < n → 0 ≤ f i ∧ f i < B) : ∀ i, i < n → dg B (sm B f n) i = f i := by
  induction n with
  | zero => intro i hi; omega
  | succ n ih =>
    intro i hi
    by_cases e : i = n
    · subst e
      have hb := sm_bound hB fun j hj => h j (Nat.lt_succ_of_lt hj)
      have hp := pow_pos' hB i
      rw [sm, dg, Int.add_mul_ediv_right _ _ (by omega), Int.ediv_eq_zero_of_lt hb.1 hb.2, Int.zero_add]
      exact Int.emod_eq_of_lt (h i hi).1 (h i hi).2
    · rw [sm, dg_add hB _ _ _ _ (by omega)]
      exact ih (fun j hj => h j (by omega)) i (by omega)
theorem dg_mod {B : Int} (hB : 0 < B) (X : Int) (n i : Nat) (h : i < n) : dg B (X % B ^ n) i = dg B X i := by
  conv => rhs; rw [split_at (B := B) X n]
  rw [dg_add hB _ _ _ _ h]
/-- digits tell the number. -/
theorem eq_of_dg {B : Int} (hB : 0 < B) {X Y : Int} {n : Nat} (hX : 0 ≤ X ∧ X < B ^ n) (hY : 0 ≤ Y ∧ Y < B ^ n) (h : ∀ i, i < n → dg B X i = dg B Y i) : X = Y := by
  have h1 := sm_dg hB X n
  have h2 := sm_dg hB Y n
  rw [sm_congr h, h2, Int.emod_eq_of_lt hY.1 hY.2, Int.emod_eq_of_lt hX.1 hX.2] at h1
  exact h1.symm
/-- two digits to the base B are one to the base B * B. -/
theorem dg_pair {B : Int} (hB : 0 < B) (X : Int) (i : Nat) : dg (B * B) X i = dg B X (2 * i) + dg B X (2 * i + 1) * B := by
  unfold dg
  rw [show (B * B) ^ i = B ^ (2 * i) by rw [show B * B = B ^ 2 by rw [Int.pow_succ, Int.pow_succ, Int.pow_zero, Int.one_mul], ← Int.pow_mul], div_succ hB X (2 * i)]
  generalize X / B ^ (2 * i) = q
  have h1 := Int.emod_add_mul_ediv q (B * B)
  have h2 := Int.emod_add_mul_ediv q B
  have h3 := Int.emod_add_mul_ediv (q / B) B
  have h4 : q / (B * B) = q / B / B := (Int.ediv_ediv_of_nonneg (Int.le_of_lt hB)).symm
  rw [h4, Int.mul_assoc] at h1
  have h5 : B * (q / B) = B * (q / B % B + B * (q / B / B)) := by rw [h3]
  rw [Int.mul_add] at h5
  rw [Int.mul_comm (q / B % B) B]
  omega
theorem pair16 (X : Int) (i : Nat) : dg 65536 X i = dg 256 X (2 * i) + dg 256 X (2 * i + 1) * 256 := dg_pair (B := 256) (by decide) X i
theorem byte0 (X : Int) (i : Nat) : dg 65536 X i % 256 = dg 256 X (2 * i) := by
  have h1 := pair16 X i
  have h2 := dg_bound (by decide : (0 : Int) < 256) X (2 * i)
  omega
theorem byte1 (X : Int) (i : Nat) : dg 65536 X i / 256 = dg 256 X (2 * i + 1) := by
  have h1 := pair16 X i
  have h2 := dg_bound (by decide : (0 : Int) < 256) X (2 * i)
  omega
theorem dg_small {B X : Int} {i : Nat} (h : 0 ≤ X ∧ X < B ^ i) : dg B X i = 0 := by
  unfold dg; rw [Int.ediv_eq_zero_of_lt h.1 h.2]; rfl
end Go.Bas
namespace Go.Bas
theorem dg_nil (B : Int) (i : Nat) : dg B 0 i = 0 := by simp [dg]
/-- the carry into digit k when X is doubled and b added. -/
def car2 (X b : Int) (k : Nat) : Int := (2 * X + b) / 65536 ^ k - 2 * (X / 65536 ^ k)
theorem car2_zero (X b : Int) : car2 X b 0 = b := by simp [car2]; omega
theorem car2_step (X b : Int) (k : Nat) : (dg 65536 X k * 2 + car2 X b k) % 65536 = dg 65536 (2 * X + b) k ∧ (dg 65536 X k * 2 + car2 X b k) / 65536 = car2 X b (k + 1) := by
  unfold car2 dg
  rw [div_succ (by decide) X, div_succ (by decide) (2 * X + b)]
  omega

theorem car2_step' (X b : Int) (k : Nat) : (2 * dg 65536 X k + car2 X b k) % 65536 = dg 65536 (2 * X + b) k ∧ (2 * dg 65536 X k + car2 X b k) / 65536 = car2 X b (k + 1) := by
  rw [Int.mul_comm 2 (dg 65536 X k)]; exact car2_step X b k
/-- the borrow from digit k when Y is taken from X. -/
def bor2 (X Y : Int) (k : Nat) : Int := X / 65536 ^ k - Y / 65536 ^ k - (X - Y) / 65536 ^ k
theorem bor2_zero (X Y : Int) : bor2 X Y 0 = 0 := by simp [bor2]
theorem bor2_step (X Y : Int) (k : Nat) (c N : Int) (hc : c = bor2 X Y k) (h0 : 0 ≤ c) (h1 : c ≤ 1) (hN : N = (dg 65536 X k - dg 65536 Y k - c) % 4294967296) :
    (dg 65536 X k - dg 65536 Y k - c) % 65536 = dg 65536 (X - Y) k ∧ N / 2147483648 = bor2 X Y (k + 1) ∧ 0 ≤ N / 2147483648 ∧ N / 2147483648 ≤ 1 := by
  subst hc hN
  unfold bor2 dg at *
  rw [div_succ (by decide) X, div_succ (by decide) Y, div_succ (by decide) (X - Y)]
  omega
theorem bor2_end {X Y c : Int} (hX : 0 ≤ X ∧ X < 65536 ^ 17) (hY : 0 ≤ Y ∧ Y < 65536 ^ 17) (hc : c = bor2 X Y 17) : (c == 0) = decide (Y ≤ X) := by
  unfold bor2 at hc
  rw [Int.ediv_eq_zero_of_lt hX.1 hX.2, Int.ediv_eq_zero_of_lt hY.1 hY.2] at hc
  by_cases h : Y ≤ X
  · rw [Int.ediv_eq_zero_of_lt (by omega) (by omega)] at hc
    subst hc; simp [h]
  · have : (X - Y) / 65536 ^ 17 = -1 := by omega
    rw [this] at hc
    subst hc; simp [h]

/-- the carry into digit k of a sum. -/
def carS (X Y : Int) (k : Nat) : Int := (X + Y) / 65536 ^ k - X / 65536 ^ k - Y / 65536 ^ k
theorem carS_zero (X Y : Int) : carS X Y 0 = 0 := by simp [carS]; omega
theorem carS_step (X Y : Int) (k : Nat) : (dg 65536 X k + dg 65536 Y k + carS X Y k) % 65536 = dg 65536 (X + Y) k ∧ (dg 65536 X k + dg 65536 Y k + carS X Y k) / 65536 = carS X Y (k + 1) := by
  unfold carS dg
  rw [div_succ (by decide) X, div_succ (by decide) Y, div_succ (by decide) (X + Y)]
  omega
theorem bit_small (Y : Int) (r : Nat) (h : r < 8) : Y / 2 ^ r % 2 = Y % 256 / 2 ^ r % 2 := by
  rcases (by omega : r = 0 ∨ r = 1 ∨ r = 2 ∨ r = 3 ∨ r = 4 ∨ r = 5 ∨ r = 6 ∨ r = 7) with rfl | rfl | rfl | rfl | rfl | rfl | rfl | rfl <;> simp <;> omega
theorem pow_256 (m : Nat) : (2 : Int) ^ m = 256 ^ (m / 8) * 2 ^ (m % 8) := by
  rw [show (256 : Int) = 2 ^ 8 from rfl, ← Int.pow_mul, ← Int.pow_add]; congr 1; omega
/-- a bit of a number is one of its byte's. -/
theorem bit_of (X : Int) (m : Nat) : X / 2 ^ m % 2 = dg 256 X (m / 8) / 2 ^ (m % 8) % 2 := by
  rw [pow_256, ← Int.ediv_ediv_of_nonneg (Int.le_of_lt (pow_pos' (by decide) _)), bit_small _ _ (Nat.mod_lt _ (by decide))]
  rfl
theorem half (X : Int) (m : Nat) : X / 2 ^ m = 2 * (X / 2 ^ (m + 1)) + X / 2 ^ m % 2 := by
  rw [div_succ (by decide)]; omega
end Go.Bas
namespace Go.Bas

theorem upd_at (f : Nat → Int) (p : Nat) (v : Int) : upd f p v p = v := if_pos rfl
theorem upd_ne (f : Nat → Int) {p i : Nat} (v : Int) (h : i ≠ p) : upd f p v i = f i := if_neg h
theorem upd_upd (f : Nat → Int) (p : Nat) (u v : Int) (i : Nat) : upd (upd f p u) p v i = upd f p v i := by
  unfold upd; split <;> rfl
theorem sm_upd' (B : Int) (f : Nat → Int) (p : Nat) (v : Int) : ∀ n, sm B (upd f p v) n = sm B f n + (if p < n then (v - f p) * B ^ p else 0)
  | 0 => by simp [sm]
  | n + 1 => by
    rw [sm, sm, sm_upd' B f p v n]
    by_cases e : n = p
    · subst e
      rw [if_neg (by omega), if_pos (by omega), show upd f n v n = v from if_pos rfl, Int.sub_mul]; omega
    · rw [show upd f p v n = f n from if_neg (by omega)]
      by_cases h : p < n
      · rw [if_pos h, if_pos (by omega)]; omega
      · rw [if_neg h, if_neg (by omega)]; omega
theorem sm_zero' (B : Int) : ∀ n, sm B (fun _ => 0) n = 0
  | 0 => rfl
  | n + 1 => by rw [sm, sm_zero' B n]; simp

theorem sm_lin (B : Int) (f g : Nat → Int) (a b : Int) : ∀ n, sm B (fun i => a * f i + b * g i) n = a * sm B f n + b * sm B g n
  | 0 => by simp [sm]
  | n + 1 => by
    rw [sm, sm, sm, sm_lin B f g a b n]
    generalize B ^ n = p
    grind
theorem sm_split (B : Int) (f : Nat → Int) (m : Nat) : ∀ n, sm B f (m + n) = sm B f m + B ^ m * sm B (fun i => f (m + i)) n
  | 0 => by simp [sm]
  | n + 1 => by
    rw [← Nat.add_assoc, sm, sm, sm_split B f m n, Int.pow_add]
    grind

/-- la, lb digits; rows below i and of row i the places below k are in; c is carried. -/
def MulInv (la lb : Nat) (A B : Int) (g : Nat → Int) (i k : Nat) (c : Int) : Prop :=
  (∀ j, 0 ≤ g j ∧ g j < 65536) ∧ (∀ j, i + lb ≤ j → g j = 0) ∧ 0 ≤ c ∧ c < 65536 ∧
  sm 65536 g (la + lb) + c * 65536 ^ (i + k) = (A % 65536 ^ i) * B + dg 65536 A i * (B % 65536 ^ k) * 65536 ^ i
theorem MulInv.zero (la lb : Nat) (A B : Int) : MulInv la lb A B (fun _ => 0) 0 0 0 :=
  ⟨fun _ => by simp, fun _ _ => rfl, by decide, by decide, by rw [sm_zero']; simp [Int.emod_one]⟩
theorem mul_le' {a b : Int} (h0 : 0 ≤ a) (h1 : a ≤ 65535) (h2 : 0 ≤ b) (h3 : b ≤ 65535) : 0 ≤ a * b ∧ a * b ≤ 4294836225 := by
  refine ⟨Int.mul_nonneg h0 h2, ?_⟩
  have := Int.mul_le_mul h1 h3 h2 (by decide : (0 : Int) ≤ 65535)
  omega
theorem MulInv.bound {la lb : Nat} {A B : Int} {g : Nat → Int} {i k : Nat} {c : Int} (h : MulInv la lb A B g i k c) :
    0 ≤ dg 65536 A i * dg 65536 B k ∧ dg 65536 A i * dg 65536 B k ≤ 4294836225 ∧ 0 ≤ g (i + k) + dg 65536 A i * dg 65536 B k ∧ g (i + k) + dg 65536 A i * dg 65536 B k < 4294967296 ∧ 0 ≤ g (i + k) + dg 65536 A i * dg 65536 B k + c ∧ g (i + k) + dg 65536 A i * dg 65536 B k + c < 4294967296 := by
  have h1 := dg_bound (by decide : (0 : Int) < 65536) A i
  have h2 := dg_bound (by decide : (0 : Int) < 65536) B k
  have h3 := mul_le' h1.1 (by omega) h2.1 (by omega)
  have h4 := h.1 (i + k)
  have h5 := h.2.2.1
  have h6 := h.2.2.2.1
  omega
theorem MulInv.step {la lb : Nat} {A B : Int} {g : Nat → Int} {i k : Nat} {c : Int} (h : MulInv la lb A B g i k c) (hi : i < la) (hk : k < lb) :
    MulInv la lb A B (upd g (i + k) ((g (i + k) + dg 65536 A i * dg 65536 B k + c) % 65536)) i (k + 1) ((g (i + k) + dg 65536 A i * dg 65536 B k + c) / 65536) := by
  obtain ⟨b1, b2, b3, b4, b5, b6⟩ := h.bound
  obtain ⟨h1, h2, h3, h4, h5⟩ := h
  refine ⟨fun j => ?_, fun j hj => ?_, by omega, by omega, ?_⟩
  · by_cases e : j = i + k
    · subst e; rw [upd_at]; omega
    · rw [upd_ne _ _ e]; exact h1 j
  · rw [upd_ne _ _ (by omega)]; exact h2 j hj
  · rw [sm_upd', if_pos (by omega), mod_succ (by decide) B k, show i + (k + 1) = (i + k) + 1 by omega, Int.pow_succ, Int.pow_add] at *
    generalize hn : g (i + k) + dg 65536 A i * dg 65536 B k + c = n at *
    generalize hxy : dg 65536 A i * dg 65536 B k = xy at *
    have e1 := Int.emod_add_mul_ediv n 65536
    generalize n % 65536 = r at *
    generalize n / 65536 = q at *
    generalize sm 65536 g (la + lb) = S at *
    generalize (65536 : Int) ^ i = p at *
    generalize (65536 : Int) ^ k = s at *
    have e2 : dg 65536 A i * (B % s + dg 65536 B k * s) * p = dg 65536 A i * (B % s) * p + xy * (p * s) := by
      rw [← hxy]; grind
    rw [e2]
    have e3 : (r - g (i + k)) * (p * s) + q * (p * s * 65536) = (xy + c) * (p * s) := by
      have : r - g (i + k) + q * 65536 = xy + c := by omega
      rw [← this]; grind
    rw [Int.add_mul] at e3
    omega
theorem MulInv.row {la lb : Nat} {A B : Int} {g : Nat → Int} {i : Nat} {c : Int} (h : MulInv la lb A B g i lb c) (hi : i < la) (hB : 0 ≤ B ∧ B < 65536 ^ lb) :
    g (i + lb) = 0 ∧ MulInv la lb A B (upd g (i + lb) (g (i + lb) + c)) (i + 1) 0 0 := by
  obtain ⟨h1, h2, h3, h4, h5⟩ := h
  have h0 := h2 (i + lb) (Nat.le_refl _)
  refine ⟨h0, fun j => ?_, fun j hj => ?_, by decide, by decide, ?_⟩
  · by_cases e : j = i + lb
    · subst e; rw [upd_at, h0]; omega
    · rw [upd_ne _ _ e]; exact h1 j
  · rw [upd_ne _ _ (by omega)]; exact h2 j (by omega)
  · rw [sm_upd', if_pos (by omega), mod_succ (by decide) A i, h0]
    rw [Int.emod_eq_of_lt hB.1 hB.2] at h5
    have e1 : (A % 65536 ^ i + dg 65536 A i * 65536 ^ i) * B = (A % 65536 ^ i) * B + dg 65536 A i * B * 65536 ^ i := by
      generalize (65536 : Int) ^ i = p
      grind
    rw [e1]
    simp [Int.emod_one]
    exact h5
theorem MulInv.done {la lb : Nat} {A B : Int} {g : Nat → Int} (h : MulInv la lb A B g la 0 0) (hA : 0 ≤ A ∧ A < 65536 ^ la) : ∀ i, i < la + lb → g i = dg 65536 (A * B) i := by
  obtain ⟨h1, h2, h3, h4, h5⟩ := h
  have h6 : sm 65536 g (la + lb) = A * B := by
    rw [Int.emod_eq_of_lt hA.1 hA.2] at h5
    simp [Int.emod_one] at h5
    exact h5
  intro i hi
  rw [← h6, dg_sm (by decide) (fun j _ => h1 j) i hi]
theorem mul_bound {la lb : Nat} {A B : Int} (hA : 0 ≤ A ∧ A < 65536 ^ la) (hB : 0 ≤ B ∧ B < 65536 ^ lb) : 0 ≤ A * B ∧ A * B < 65536 ^ (la + lb) := by
  refine ⟨Int.mul_nonneg hA.1 hB.1, ?_⟩
  rw [Int.pow_add]
  have h1 : A * B ≤ A * 65536 ^ lb := Int.mul_le_mul_of_nonneg_left (by omega) hA.1
  have h2 : A * 65536 ^ lb < 65536 ^ la * 65536 ^ lb := Int.mul_lt_mul_of_pos_right hA.2 (pow_pos' (by decide) _)
  omega
end Go.Bas
namespace Go.Bas
open Go.RowKit
/-- u's block is not v's. -/
def Apart (u v : Value) : Prop := u.ownBlock = none ∨ u.ownBlock ≠ v.ownBlock
/-- where v' lies that came of v in the world w: in v's block or in a new one. -/
def Placed (w : World) (v v' : Value) : Prop := v'.ownBlock = v.ownBlock ∨ ∀ b, v'.ownBlock = some b → w.heap.size ≤ b
theorem Apart.nil (v : Value) : Apart (.slice none 0 0) v := .inl rfl
theorem Apart.symm {u v : Value} (h : Apart u v) : Apart v u := by
  rcases h with h | h
  · cases hv : v.ownBlock with
    | none => exact .inl hv
    | some b => exact .inr (by rw [h, hv]; simp)
  · exact .inr fun e => h e.symm
theorem Own.kept {k : IntKind} {e : TypeId} {base : Nat} {w w' : World} {u v : Value} {n : Nat} {f : Nat → Int} (h : Own k e base w u n f) (hg : w.grownBy w' v.ownBlock) (ha : Apart u v) : Own k e base w' u n f := by
  refine World.ownsRow.kept h hg ?_
  rcases ha with h | h
  · exact .inl h
  · exact .inr h
theorem Own.apart {k : IntKind} {e : TypeId} {base : Nat} {w : World} {u v v' : Value} {n : Nat} {f : Nat → Int} (h : Own k e base w u n f) (ha : Apart u v) (hp : Placed w v v') : Apart u v' := by
  cases hu : u.ownBlock with
  | none => exact .inl hu
  | some b =>
    refine .inr ?_
    have hlt := (World.ownsRow.lt h b hu).2
    rcases hp with hp | hp
    · rw [hp, hu]
      rcases ha with ha | ha
      · rw [hu] at ha; cases ha
      · rw [hu] at ha; exact ha
    · intro e2
      rw [hu] at e2
      have := hp b e2.symm
      omega
theorem run_append_place {P : Program} (w : World) (base : Nat) (t ty e : TypeId) (i : TypeInfo) (z : Value) (size bytes : Nat) (ht : P.underlying t = some (.slice e)) (hi : P.info? e = some i) (hz : i.zero = some z)
    (hsize : i.size = size) (hby : i.bytes = bytes) (hzs : z.cells.size = size) (hsz : 0 < size)
    (v : Value) (n : Nat) (xs : List Value) (hown : w.ownsRow base e size v n xs)
    (a : Addr) (m c : Nat) (news : List Value) (hl : news.length = m * size) (hnews : ∀ j u, news[j]? = some u → w.cell? (a.add j) = some u) (h1 : ∀ u ∈ news, u.oneCell' = true)
    (h63 : n + m ≤ maxLen) (hbytes : (n + m) * bytes ≤ 140737488355328) (v' : Value) (w' : World) (hrun : (Builtin.append_ #[t, t] ty #[v, .slice (some a) m c]).run P w = .ok v' w') : Placed w v v' := by
  subst hsize
  subst hby
  have hsmall : n + m ≤ 9223372036854775807 := by simp only [maxLen] at h63; omega
  rcases hown.2 with ⟨rfl, rfl⟩ | ⟨g, cap, cur, rfl, hbg, hg, hnc, hcm, hcs, htake⟩
  · have hx : xs = [] := List.eq_nil_of_length_eq_zero (by simpa using hown.1)
    subst hx
    by_cases hm : m = 0
    · subst hm
      have hn : news = [] := List.eq_nil_of_length_eq_zero (by simpa using hl)
      subst hn
      have hr : (Builtin.append_ #[t, t] ty #[.slice none 0 0, .slice (some a) 0 c]).run P w = .ok (.slice none 0 0) w := by
        simp [Builtin.append_, run_underlying ht, sizeOf, typeInfo, hi, Builtin.lenOf, Builtin.firstCells, loadCells, loadCellsFrom]
      rw [hr] at hrun
      cases hrun
      exact .inl rfl
    · have hr := run_append_nil (P := P) w t ty e i z ht hi hz a m c news hl hnews (by omega) (by omega) (by have hb := hbytes; simp only [Nat.zero_add] at hb; omega)
      rw [hr] at hrun
      cases hrun
      refine .inr fun b hb => ?_
      simp [Value.ownBlock] at hb
      omega
  · by_cases hroom : n + m ≤ cap
    · have hfit : n * i.size + news.length ≤ cur.size := by rw [hl, hcs, ← Nat.add_mul]; exact Nat.mul_le_mul_right _ hroom
      have hr := run_append_room (P := P) w t ty e i ht hi g n cap cur hg a m c news hl hnews h1 hroom hfit
      rw [hr] at hrun
      cases hrun
      exact .inl rfl
    · have holds : ∀ j u, xs[j]? = some u → w.cell? ((⟨g, 0, none⟩ : Addr).add j) = some u := hown.cells (g := g) rfl
      have hr := run_append_grow (P := P) w t ty e i z ht hi hz ⟨g, 0, none⟩ n cap xs hown.1 holds a m c news hl hnews (by omega) (by omega) (growslice_fits (by omega) hbytes)
      rw [hr] at hrun
      cases hrun
      refine .inr fun b hb => ?_
      simp [Value.ownBlock] at hb
      omega

/-- append of what lies in a block that has just been made, with the place. -/
theorem append_new2 {P : Program} {w : World} {ops : Array Oper} {rest : List Oper} {o : Oper} {a : Act} {Q : Exit → Act → World → Prop}
    (hg : o.guard = none) (s x : Operand) (t : TypeId) (hop : o.op = .call { callee := .builtin .append, args := #[s, x], argTypes := #[t, t] })
    (base : Nat) (e : TypeId) (k : IntKind) (bytes : Nat)
    (h1 : P.underlying t = some (.slice e)) (hinfo : (P.info? e).map (fun i => (i.zero, i.size, i.bytes)) = some (some (.int k 0), 1, bytes))
    (v : Value) (n : Nat) (f : Nat → Int) (w0 : World) (cs : Array Value) (hw : w = w0.alloc (.cells cs e)) (hown : Own k e base w0 v n f) (hs : a.eval s = v)
    (m : Nat) (hx : a.eval x = .slice (some ⟨w0.heap.size, 0, none⟩) m m) (hm : cs.size = m) (hc : ∀ i, i < m → cs[i]? = some (.int k (f (n + i))))
    (b2 : (n + m) * bytes ≤ 140737488355328) (b3 : n + m ≤ 9223372036854775807) (b4 : base ≤ w0.heap.size)
    (hK : ∀ v' w', Own k e base w' v' (n + m) f → w.grownBy w' v.ownBlock → Placed w v v' → wpList P ops Q rest (a.put o.dst v') w') :
    wpList P ops Q (o :: rest) a w := by
  subst hw
  obtain ⟨i, hi, hz0, hz1, hz2⟩ := info_parts hinfo
  have hnews : cs.toList = (List.range m).map fun i => Value.int k (f (n + i)) := by
    apply List.ext_getElem?
    intro i
    by_cases h : i < m
    · rw [Array.getElem?_toList, hc i h]; simp [h]
    · rw [Array.getElem?_toList]; simp [h, hm]
  have hv : vals k n f ++ cs.toList = vals k (n + m) f := by
    rw [hnews]
    unfold vals
    rw [List.range_add]
    simp
  have hown' := World.ownsRow.alloc hown (.cells cs e)
  have hl : cs.toList.length = m * 1 := by simp [hm]
  have hn : ∀ j u, cs.toList[j]? = some u → (w0.alloc (.cells cs e)).cell? ((⟨w0.heap.size, 0, none⟩ : Addr).add j) = some u := by
    intro j u hu
    have hadd : (⟨w0.heap.size, 0, none⟩ : Addr).add j = ⟨w0.heap.size, j, none⟩ := by unfold Addr.add; split <;> simp_all
    rw [hadd, cell_of_row (w0.alloc (.cells cs e)) w0.heap.size j cs e (0, 0) (heap_alloc_new w0 _)]
    simpa using hu
  have h1' : ∀ u ∈ cs.toList, u.oneCell' = true := by
    intro u hu
    rw [hnews] at hu
    obtain ⟨_, _, rfl⟩ := List.mem_map.1 hu
    rfl
  obtain ⟨v', w', hr, q1, q2, q3⟩ := run_append_own (P := P) _ base t o.type e i (.int k 0) 1 bytes h1 hi hz0 hz1 hz2 rfl (by decide) v n (vals k n f) hown' ⟨w0.heap.size, 0, none⟩ m m cs.toList hl hn h1' (by unfold maxLen; omega) b2 (by simp; omega)
  have hpl := run_append_place (P := P) _ base t o.type e i (.int k 0) 1 bytes h1 hi hz0 hz1 hz2 rfl (by decide) v n (vals k n f) hown' ⟨w0.heap.size, 0, none⟩ m m cs.toList hl hn h1' (by unfold maxLen; omega) b2 v' w' hr
  refine wpList_plain hg fun _ hK' => ?_
  unfold Oper.wp execOp
  simp only [hop, resolve, invoke, builtin, Sem.run_bind, Sem.run_pure, Result.andThen_ok, List.map_toArray, List.map_cons, List.map_nil, hs, hx, hr]
  exact hK' _ _ (hK v' w' (by unfold Own; rw [← hv]; exact q1) q2 hpl)

/-- append of a slice of integers that can be read, with the place. -/
theorem append_rd2 {P : Program} {w : World} {ops : Array Oper} {rest : List Oper} {o : Oper} {a : Act} {Q : Exit → Act → World → Prop}
    (hg : o.guard = none) (s x : Operand) (t : TypeId) (hop : o.op = .call { callee := .builtin .append, args := #[s, x], argTypes := #[t, t] })
    (base : Nat) (e : TypeId) (k : IntKind) (bytes : Nat)
    (h1 : P.underlying t = some (.slice e)) (hinfo : (P.info? e).map (fun i => (i.zero, i.size, i.bytes)) = some (some (.int k 0), 1, bytes))
    (v : Value) (n : Nat) (f : Nat → Int) (hown : Own k e base w v n f) (hs : a.eval s = v)
    (u : Value) (m : Nat) (g : Nat → Int) (hrd : Rd k w u m g) (hx : a.eval x = u) (hf : ∀ i, i < m → f (n + i) = g i)
    (b2 : (n + m) * bytes ≤ 140737488355328) (b3 : n + m ≤ 9223372036854775807) (b4 : base ≤ w.heap.size)
    (hK : ∀ v' w', Own k e base w' v' (n + m) f → w.grownBy w' v.ownBlock → Placed w v v' → wpList P ops Q rest (a.put o.dst v') w') :
    wpList P ops Q (o :: rest) a w := by
  obtain ⟨i, hi, hz0, hz1, hz2⟩ := info_parts hinfo
  have hv : vals k n f ++ vals k m g = vals k (n + m) f := by
    unfold vals
    rw [List.range_add]
    simp only [List.map_append, List.map_map]
    congr 1
    exact List.map_congr_left fun i hi => by simp [hf i (List.mem_range.1 hi)]
  obtain ⟨ao, c, rfl, l1, l2, l3, l4⟩ := hrd
  refine wpList_plain hg fun _ hK' => ?_
  cases ao with
  | none =>
    have hm : m = 0 := by have := l3 rfl; omega
    subst hm
    have hr := run_append_owned_none (P := P) w base t o.type e i 1 h1 hi v n _ hown
    have hc0 := l3 rfl
    subst hc0
    unfold Oper.wp execOp
    simp only [hop, resolve, invoke, builtin, Sem.run_bind, Sem.run_pure, Result.andThen_ok, List.map_toArray, List.map_cons, List.map_nil, hs, hx, hr]
    exact hK' _ _ (hK v w (by simpa using hown) (World.grownBy.refl _ _) (.inl rfl))
  | some ad =>
    have hn : ∀ j u, (vals k m g)[j]? = some u → w.cell? (ad.add j) = some u := by
      intro j u hu
      have hj : j < m := by
        have := (List.getElem?_eq_some_iff.1 hu).1
        simpa using this
      obtain ⟨b, of, hb, _, hcell⟩ := l4 (by omega)
      obtain rfl := Option.some.inj hb
      have hadd : (⟨b, of, none⟩ : Addr).add j = ⟨b, of + j, none⟩ := by unfold Addr.add; split <;> simp_all
      rw [hadd, hcell j hj, ← vals_get (k := k) (f := g) hj]
      exact hu
    have h1' : ∀ u ∈ vals k m g, u.oneCell' = true := by
      intro u hu
      obtain ⟨_, _, rfl⟩ := List.mem_map.1 hu
      rfl
    obtain ⟨v', w', hr, q1, q2, q3⟩ := run_append_own (P := P) w base t o.type e i (.int k 0) 1 bytes h1 hi hz0 hz1 hz2 rfl (by decide) v n (vals k n f) hown ad m c (vals k m g) (by simp) hn h1' (by unfold maxLen; omega) b2 b4
    have hpl := run_append_place (P := P) w base t o.type e i (.int k 0) 1 bytes h1 hi hz0 hz1 hz2 rfl (by decide) v n (vals k n f) hown ad m c (vals k m g) (by simp) hn h1' (by unfold maxLen; omega) b2 v' w' hr
    unfold Oper.wp execOp
    simp only [hop, resolve, invoke, builtin, Sem.run_bind, Sem.run_pure, Result.andThen_ok, List.map_toArray, List.map_cons, List.map_nil, hs, hx, hr]
    exact hK' _ _ (hK v' w' (by unfold Own; rw [← hv]; exact q1) q2 hpl)
/-- append of a slice of integers that can be read, with the place, as one operation. -/
theorem wp_append_rd2 {P : Program} {w : World} {o : Oper} {a : Act} {K : Act → World → Prop} {Q : Exit → Act → World → Prop}
    (s x : Operand) (t : TypeId) (hop : o.op = .call { callee := .builtin .append, args := #[s, x], argTypes := #[t, t] })
    (base : Nat) (e : TypeId) (k : IntKind) (bytes : Nat)
    (h1 : P.underlying t = some (.slice e)) (hinfo : (P.info? e).map (fun i => (i.zero, i.size, i.bytes)) = some (some (.int k 0), 1, bytes))
    (v : Value) (n : Nat) (f : Nat → Int) (hown : Own k e base w v n f) (hs : a.eval s = v)
    (u : Value) (m : Nat) (g : Nat → Int) (hrd : Rd k w u m g) (hx : a.eval x = u) (hf : ∀ i, i < m → f (n + i) = g i)
    (b2 : (n + m) * bytes ≤ 140737488355328) (b3 : n + m ≤ 9223372036854775807) (b4 : base ≤ w.heap.size)
    (hK : ∀ v' w', Own k e base w' v' (n + m) f → w.grownBy w' v.ownBlock → Placed w v v' → K (a.put o.dst v') w') :
    o.wp P a w K Q := by
  obtain ⟨i, hi, hz0, hz1, hz2⟩ := info_parts hinfo
  have hv : vals k n f ++ vals k m g = vals k (n + m) f := by
    unfold vals
    rw [List.range_add]
    simp only [List.map_append, List.map_map]
    congr 1
    exact List.map_congr_left fun i hi => by simp [hf i (List.mem_range.1 hi)]
  obtain ⟨ao, c, rfl, l1, l2, l3, l4⟩ := hrd
  cases ao with
  | none =>
    have hm : m = 0 := by have := l3 rfl; omega
    subst hm
    have hr := run_append_owned_none (P := P) w base t o.type e i 1 h1 hi v n _ hown
    have hc0 := l3 rfl
    subst hc0
    unfold Oper.wp execOp
    simp only [hop, resolve, invoke, builtin, Sem.run_bind, Sem.run_pure, Result.andThen_ok, List.map_toArray, List.map_cons, List.map_nil, hs, hx, hr]
    exact hK v w (by simpa using hown) (World.grownBy.refl _ _) (.inl rfl)
  | some ad =>
    have hn : ∀ j u, (vals k m g)[j]? = some u → w.cell? (ad.add j) = some u := by
      intro j u hu
      have hj : j < m := by
        have := (List.getElem?_eq_some_iff.1 hu).1
        simpa using this
      obtain ⟨b, of, hb, _, hcell⟩ := l4 (by omega)
      obtain rfl := Option.some.inj hb
      have hadd : (⟨b, of, none⟩ : Addr).add j = ⟨b, of + j, none⟩ := by unfold Addr.add; split <;> simp_all
      rw [hadd, hcell j hj, ← vals_get (k := k) (f := g) hj]
      exact hu
    have h1' : ∀ u ∈ vals k m g, u.oneCell' = true := by
      intro u hu
      obtain ⟨_, _, rfl⟩ := List.mem_map.1 hu
      rfl
    obtain ⟨v', w', hr, q1, q2, q3⟩ := run_append_own (P := P) w base t o.type e i (.int k 0) 1 bytes h1 hi hz0 hz1 hz2 rfl (by decide) v n (vals k n f) hown ad m c (vals k m g) (by simp) hn h1' (by unfold maxLen; omega) b2 b4
    have hpl := run_append_place (P := P) w base t o.type e i (.int k 0) 1 bytes h1 hi hz0 hz1 hz2 rfl (by decide) v n (vals k n f) hown ad m c (vals k m g) (by simp) hn h1' (by unfold maxLen; omega) b2 v' w' hr
    unfold Oper.wp execOp
    simp only [hop, resolve, invoke, builtin, Sem.run_bind, Sem.run_pure, Result.andThen_ok, List.map_toArray, List.map_cons, List.map_nil, hs, hx, hr]
    exact hK v' w' (by unfold Own; rw [← hv]; exact q1) q2 hpl
end Go.Bas
namespace Go.Bas

/-- the prime. -/
def PP : Int := 2 ^ 130 - 5
theorem PP_pos : (0 : Int) < PP := by decide
theorem p130 : (2 : Int) ^ 130 = 256 ^ 16 * 4 := by decide
theorem p136 : (256 : Int) ^ 17 = 64 * PP + 320 := by decide
theorem modPP_of {a b c : Int} (h : a = b + PP * c) : a % PP = b % PP := by rw [h, Int.add_mul_emod_self_left]

/-- what is carried into part i. -/
def cu (f : Nat → Int) : Nat → Int
  | 0 => 0
  | i + 1 => (f i + cu f i) / 256
theorem cu_sm (f : Nat → Int) : ∀ k, cu f k = sm 256 f k / 256 ^ k
  | 0 => by simp [cu, sm]
  | k + 1 => by
    rw [cu, cu_sm f k, sm, div_succ (by decide), Int.add_mul_ediv_right _ _ (by have := pow_pos' (by decide : (0 : Int) < 256) k; omega)]
    congr 1; omega
theorem cu_digit (f : Nat → Int) {n k : Nat} (h : k < n) : (f k + cu f k) % 256 = dg 256 (sm 256 f n) k := by
  obtain ⟨d, rfl⟩ : ∃ d, n = (k + 1) + d := ⟨n - (k + 1), by omega⟩
  rw [sm_split, Int.mul_comm (256 ^ (k + 1)), dg_add (by decide) _ _ _ _ (by omega)]
  unfold dg
  rw [sm, Int.add_mul_ediv_right _ _ (by have := pow_pos' (by decide : (0 : Int) < 256) k; omega), cu_sm]
  congr 1; omega
theorem cu_top (f : Nat → Int) (k : Nat) : f k + cu f k = sm 256 f (k + 1) / 256 ^ k := by
  rw [sm, Int.add_mul_ediv_right _ _ (by have := pow_pos' (by decide : (0 : Int) < 256) k; omega), cu_sm]; omega
theorem cu_bound {f : Nat → Int} {M : Int} (n : Nat) (hf : ∀ i, i < n → 0 ≤ f i ∧ f i ≤ M) (hM : 0 ≤ M) : ∀ k, k ≤ n → 0 ≤ cu f k ∧ cu f k ≤ M := by
  intro k
  induction k with
  | zero => intro _; exact ⟨Int.le_refl _, hM⟩
  | succ k ih =>
    intro hk
    have a := ih (by omega)
    have b := hf k (by omega)
    unfold cu; omega
/-- a number's parts: the last one keeps all that is above. -/
def pd (V : Int) : Nat → Int := fun i => if i < 16 then dg 256 V i else V / 256 ^ 16
theorem pd_low (V : Int) {i : Nat} (h : i < 16) : pd V i = dg 256 V i := if_pos h
theorem pd_top (V : Int) : pd V 16 = V / 256 ^ 16 := if_neg (by decide)
theorem sm_pd (V : Int) : sm 256 (pd V) 17 = V := by
  rw [sm, pd_top, sm_congr (g := dg 256 V) (fun i hi => pd_low V hi), sm_dg (by decide)]
  have := Int.emod_add_mul_ediv V (256 ^ 16)
  rw [Int.mul_comm] at this
  exact this
theorem pd_dg {V : Int} (h0 : 0 ≤ V) (h1 : V < 256 ^ 17) : ∀ i, i < 17 → pd V i = dg 256 V i := by
  intro i hi
  by_cases e : i < 16
  · exact pd_low V e
  · obtain rfl : i = 16 := by omega
    rw [pd_top]; unfold dg
    have h2 : V / 256 ^ 16 < 256 := Int.ediv_lt_of_lt_mul (by decide) (by omega)
    have h3 : 0 ≤ V / 256 ^ 16 := Int.ediv_nonneg h0 (by decide)
    omega
/-- what is above bit 130, five times, comes below. -/
def fold5 (V : Int) : Int := V % 2 ^ 130 + 5 * (V / 2 ^ 130)
theorem fold5_mod (V : Int) : fold5 V % PP = V % PP := by
  unfold fold5
  have h := Int.emod_add_mul_ediv V (2 ^ 130)
  refine modPP_of (c := -(V / 2 ^ 130)) ?_
  have e : (2 : Int) ^ 130 = PP + 5 := by decide
  rw [e] at h ⊢
  generalize V / (PP + 5) = q at *
  generalize V % (PP + 5) = r at *
  rw [Int.mul_neg]
  rw [Int.add_mul] at h
  omega
theorem fold5_bound {V : Int} (h0 : 0 ≤ V) (h1 : V < 2 ^ 130 * 1000000000) : 0 ≤ fold5 V ∧ fold5 V < 2 ^ 130 + 5000000000 := by
  unfold fold5
  have h2 := Int.emod_nonneg V (show (2 : Int) ^ 130 ≠ 0 by decide)
  have h3 := Int.emod_lt_of_pos V (show (0 : Int) < 2 ^ 130 by decide)
  have h4 : V / 2 ^ 130 < 1000000000 := Int.ediv_lt_of_lt_mul (by decide) (by omega)
  have h5 := Int.ediv_nonneg h0 (show (0 : Int) ≤ 2 ^ 130 by decide)
  omega
theorem fold5_twice {V : Int} (h0 : 0 ≤ V) (h1 : V < 2 ^ 130 + 5000000000) : 0 ≤ fold5 V ∧ fold5 V < 2 ^ 130 := by
  unfold fold5
  have hp : (10000000000 : Int) < 2 ^ 130 := by decide
  have h2 := Int.emod_nonneg V (show (2 : Int) ^ 130 ≠ 0 by decide)
  have h3 := Int.emod_lt_of_pos V (show (0 : Int) < 2 ^ 130 by decide)
  have h4 := Int.emod_add_mul_ediv V (2 ^ 130)
  generalize (2 : Int) ^ 130 = p at *
  have h5 : 0 ≤ V / p := Int.ediv_nonneg h0 (by omega)
  have h6 : V / p < 2 := Int.ediv_lt_of_lt_mul (by omega) (by omega)
  rcases (by omega : V / p = 0 ∨ V / p = 1) with h7 | h7 <;> rw [h7] at h4 ⊢ <;> omega
/-- the carry into digit k where b is added. -/
def carB (X b : Int) (k : Nat) : Int := (X + b) / 256 ^ k - X / 256 ^ k
theorem carB_zero (X b : Int) : carB X b 0 = b := by simp [carB]; omega
theorem carB_step (X b : Int) (k : Nat) : (dg 256 X k + carB X b k) % 256 = dg 256 (X + b) k ∧ (dg 256 X k + carB X b k) / 256 = carB X b (k + 1) := by
  unfold carB dg
  rw [div_succ (by decide) X, div_succ (by decide) (X + b)]
  omega
theorem carB_bound {X b : Int} (hb : 0 ≤ b) : ∀ k, 0 ≤ carB X b k ∧ carB X b k ≤ b
  | 0 => by rw [carB_zero]; omega
  | k + 1 => by
    have h := carB_bound (X := X) hb k
    have h2 := (carB_step X b k).2
    have h3 := dg_bound (by decide : (0 : Int) < 256) X k
    omega
/-- the parts behind carry. -/
theorem fold_parts (V : Int) : (∀ i, i < 16 → dg 256 (V % 256 ^ 16 + 5 * (V / 256 ^ 16 / 4)) i = pd (fold5 V) i) ∧ V / 256 ^ 16 % 4 + carB (V % 256 ^ 16) (5 * (V / 256 ^ 16 / 4)) 16 = pd (fold5 V) 16 := by
  have e1 : V / 2 ^ 130 = V / 256 ^ 16 / 4 := by rw [p130, Int.ediv_ediv_of_nonneg (by decide)]
  have e2 : V % 2 ^ 130 = V % 256 ^ 16 + V / 256 ^ 16 % 4 * 256 ^ 16 := by
    have h1 := Int.emod_add_mul_ediv V (2 ^ 130)
    have h2 := Int.emod_add_mul_ediv V (256 ^ 16)
    have h3 := Int.emod_add_mul_ediv (V / 256 ^ 16) 4
    rw [e1, p130] at h1
    rw [p130]
    generalize (256 : Int) ^ 16 = p at *
    generalize V / p = q at *
    have h4 : p * q = p * (q % 4) + p * 4 * (q / 4) := by
      conv => lhs; rw [← h3]
      rw [Int.mul_add, Int.mul_assoc]
    rw [Int.mul_comm (q % 4)]
    omega
  have e3 : fold5 V = V % 256 ^ 16 + 5 * (V / 256 ^ 16 / 4) + V / 256 ^ 16 % 4 * 256 ^ 16 := by unfold fold5; rw [e1, e2]; omega
  constructor
  · intro i hi
    rw [pd_low _ hi, e3, dg_add (by decide) _ _ _ _ hi]
  · rw [pd_top, e3, Int.add_mul_ediv_right _ _ (by decide)]
    unfold carB
    have h2 := Int.emod_nonneg V (show (256 : Int) ^ 16 ≠ 0 by decide)
    have h3 := Int.emod_lt_of_pos V (show (0 : Int) < 256 ^ 16 by decide)
    rw [Int.ediv_eq_zero_of_lt h2 h3]
    omega

/-! products -/
/-- what part j of one factor is multiplied with for part i of the product. -/
def rowP (g : Nat → Int) (j i : Nat) : Int := if j ≤ i then g (i - j) else 320 * g (i + 17 - j)
theorem sm_shift (B : Int) (f : Nat → Int) (x : Int) : ∀ n, sm B (fun i => if i = 0 then x else f (i - 1)) (n + 1) = x + B * sm B f n
  | 0 => by simp [sm]
  | n + 1 => by
    rw [sm, sm_shift B f x n, sm, if_neg (by omega), Int.pow_succ, show n + 1 - 1 = n by omega]
    generalize B ^ n = p
    grind
theorem rowP_succ (g : Nat → Int) (j : Nat) (hj : j ≤ 16) : ∀ i, i < 17 → rowP g (j + 1) i = if i = 0 then 320 * rowP g j 16 else rowP g j (i - 1) := by
  intro i hi
  unfold rowP
  by_cases e : i = 0
  · subst e
    rw [if_neg (by omega), if_pos rfl, if_pos hj, show 0 + 17 - (j + 1) = 16 - j by omega]
  · rw [if_neg e]
    by_cases h : j + 1 ≤ i
    · rw [if_pos h, if_pos (by omega), show i - (j + 1) = i - 1 - j by omega]
    · rw [if_neg h, if_neg (by omega), show i + 17 - (j + 1) = i - 1 + 17 - j by omega]
theorem sm_rowP (g : Nat → Int) : ∀ j, j ≤ 17 → sm 256 (rowP g j) 17 % PP = 256 ^ j * sm 256 g 17 % PP := by
  intro j
  induction j with
  | zero =>
    intro _
    rw [Int.pow_zero, Int.one_mul, sm_congr (fun i _ => show rowP g 0 i = g i by unfold rowP; rw [if_pos (Nat.zero_le _), Nat.sub_zero])]
  | succ j ih =>
    intro hj
    have h := ih (by omega)
    rw [sm_congr (rowP_succ g j (by omega)), sm_shift]
    have e1 : sm 256 (rowP g j) 17 = sm 256 (rowP g j) 16 + rowP g j 16 * 256 ^ 16 := rfl
    have e2 : 320 * rowP g j 16 + 256 * sm 256 (rowP g j) 16 = 256 * sm 256 (rowP g j) 17 + PP * (-64 * rowP g j 16) := by
      have h3 : (256 : Int) * 256 ^ 16 = 64 * PP + 320 := by decide
      rw [e1, Int.mul_add]
      have h4 : 256 * (rowP g j 16 * 256 ^ 16) = rowP g j 16 * (64 * PP + 320) := by rw [← h3]; generalize (256 : Int) ^ 16 = p; grind
      rw [h4]
      generalize PP = p
      grind
    rw [modPP_of e2, Int.mul_emod, h, ← Int.mul_emod, Int.pow_succ]
    congr 1
    generalize (256 : Int) ^ j = p
    grind
/-- part i of a product, of which the first n parts of one factor are in. -/
def prodS (f g : Nat → Int) (i : Nat) : Nat → Int
  | 0 => 0
  | n + 1 => prodS f g i n + f n * rowP g n i
theorem prodS_mod (f g : Nat → Int) : ∀ n, n ≤ 17 → sm 256 (fun i => prodS f g i n) 17 % PP = sm 256 f n * sm 256 g 17 % PP := by
  intro n
  induction n with
  | zero => intro _; rw [show sm 256 f 0 = 0 from rfl, Int.zero_mul, show (fun i => prodS f g i 0) = fun _ => (0 : Int) from rfl, sm_zero' 256 17]
  | succ n ih =>
    intro hn
    have e1 : sm 256 (fun i => prodS f g i (n + 1)) 17 = 1 * sm 256 (fun i => prodS f g i n) 17 + f n * sm 256 (rowP g n) 17 := by
      rw [← sm_lin]
      exact sm_congr fun i _ => by rw [prodS]; omega
    rw [e1, Int.one_mul, Int.add_emod, ih (by omega), Int.mul_emod (f n), sm_rowP g n (by omega), ← Int.mul_emod, ← Int.add_emod, show sm 256 f (n + 1) = sm 256 f n + f n * 256 ^ n from rfl]
    congr 1
    generalize (256 : Int) ^ n = p
    grind
theorem prodS_bound {f g : Nat → Int} (hf : ∀ i, i < 17 → 0 ≤ f i ∧ f i ≤ 600) (hg : ∀ i, i < 17 → 0 ≤ g i ∧ g i ≤ 255) (i : Nat) (hi : i < 17) : ∀ n, n ≤ 17 → 0 ≤ prodS f g i n ∧ prodS f g i n ≤ n * 48960000 := by
  intro n
  induction n with
  | zero => intro _; exact ⟨Int.le_refl _, Int.le_refl _⟩
  | succ n ih =>
    intro hn
    have h := ih (by omega)
    have hfn := hf n (by omega)
    have hr : 0 ≤ rowP g n i ∧ rowP g n i ≤ 81600 := by
      unfold rowP
      split
      · have := hg (i - n) (by omega); omega
      · have := hg (i + 17 - n) (by omega); omega
    have m0 := Int.mul_nonneg hfn.1 hr.1
    have m1 : f n * rowP g n i ≤ 600 * 81600 := Int.mul_le_mul hfn.2 hr.2 hr.1 (by decide)
    rw [prodS]
    push_cast
    omega
end Go.Bas
