/-
  Carries and borrows between digits to the base 65536. No program in sight.
-/
import Derived.Test.YtjmagojmfiabfaaNum
namespace Go.Bas
theorem dg_nil (B : Int) (i : Nat) : dg B 0 i = 0 := by simp [dg]
/-- the carry into digit k when X is doubled and b added. -/
def car2 (X b : Int) (k : Nat) : Int := (2 * X + b) / 65536 ^ k - 2 * (X / 65536 ^ k)
theorem car2_zero (X b : Int) : car2 X b 0 = b := by simp [car2]; omega
theorem car2_step (X b : Int) (k : Nat) : (dg 65536 X k * 2 + car2 X b k) % 65536 = dg 65536 (2 * X + b) k ∧ (dg 65536 X k * 2 + car2 X b k) / 65536 = car2 X b (k + 1) := by
  unfold car2 dg
  rw [div_succ (by decide) X, div_succ (by decide) (2 * X + b)]
  omega

theorem car2_step' (X b : Int) (k : Nat) : (2 * dg 65536 X k + car2 X b k) % 65536 = dg 65536 (2 * X + b) k ∧ (2 * dg 65536 X k + car2 X b k) / 65536 = car2 X b (k + 1) := by
  rw [Int.mul_comm 2 (dg 65536 X k)]; exact car2_step X b k
/-- the borrow from digit k when Y is taken from X. -/
def bor2 (X Y : Int) (k : Nat) : Int := X / 65536 ^ k - Y / 65536 ^ k - (X - Y) / 65536 ^ k
theorem bor2_zero (X Y : Int) : bor2 X Y 0 = 0 := by simp [bor2]
theorem bor2_step (X Y : Int) (k : Nat) (c N : Int) (hc : c = bor2 X Y k) (h0 : 0 ≤ c) (h1 : c ≤ 1) (hN : N = (dg 65536 X k - dg 65536 Y k - c) % 4294967296) :
    (dg 65536 X k - dg 65536 Y k - c) % 65536 = dg 65536 (X - Y) k ∧ N / 2147483648 = bor2 X Y (k + 1) ∧ 0 ≤ N / 2147483648 ∧ N / 2147483648 ≤ 1 := by
  subst hc hN
  unfold bor2 dg at *
  rw [div_succ (by decide) X, div_succ (by decide) Y, div_succ (by decide) (X - Y)]
  omega
theorem bor2_end {X Y c : Int} (hX : 0 ≤ X ∧ X < 65536 ^ 17) (hY : 0 ≤ Y ∧ Y < 65536 ^ 17) (hc : c = bor2 X Y 17) : (c == 0) = decide (Y ≤ X) := by
  unfold bor2 at hc
  rw [Int.ediv_eq_zero_of_lt hX.1 hX.2, Int.ediv_eq_zero_of_lt hY.1 hY.2] at hc
  by_cases h : Y ≤ X
  · rw [Int.ediv_eq_zero_of_lt (by omega) (by omega)] at hc
    subst hc; simp [h]
  · have : (X - Y) / 65536 ^ 17 = -1 := by omega
    rw [this] at hc
    subst hc; simp [h]

/-- the carry into digit k of a sum. -/
def carS (X Y : Int) (k : Nat) : Int := (X + Y) / 65536 ^ k - X / 65536 ^ k - Y / 65536 ^ k
theorem carS_zero (X Y : Int) : carS X Y 0 = 0 := by simp [carS]; omega
theorem carS_step (X Y : Int) (k : Nat) : (dg 65536 X k + dg 65536 Y k + carS X Y k) % 65536 = dg 65536 (X + Y) k ∧ (dg 65536 X k + dg 65536 Y k + carS X Y k) / 65536 = carS X Y (k + 1) := by
  unfold carS dg
  rw [div_succ (by decide) X, div_succ (by decide) Y, div_succ (by decide) (X + Y)]
  omega
theorem bit_small (Y : Int) (r : Nat) (h : r < 8) : Y / 2 ^ r % 2 = Y % 256 / 2 ^ r % 2 := by
  rcases (by omega : r = 0 ∨ r = 1 ∨ r = 2 ∨ r = 3 ∨ r = 4 ∨ r = 5 ∨ r = 6 ∨ r = 7) with rfl | rfl | rfl | rfl | rfl | rfl | rfl | rfl <;> simp <;> omega
theorem pow_256 (m : Nat) : (2 : Int) ^ m = 256 ^ (m / 8) * 2 ^ (m % 8) := by
  rw [show (256 : Int) = 2 ^ 8 from rfl, ← Int.pow_mul, ← Int.pow_add]; congr 1; omega
/-- a bit of a number is one of its byte's. -/
theorem bit_of (X : Int) (m : Nat) : X / 2 ^ m % 2 = dg 256 X (m / 8) / 2 ^ (m % 8) % 2 := by
  rw [pow_256, ← Int.ediv_ediv_of_nonneg (Int.le_of_lt (pow_pos' (by decide) _)), bit_small _ _ (Nat.mod_lt _ (by decide))]
  rfl
theorem half (X : Int) (m : Nat) : X / 2 ^ m = 2 * (X / 2 ^ (m + 1)) + X / 2 ^ m % 2 := by
  rw [div_succ (by decide)]; omega
end Go.Bas
