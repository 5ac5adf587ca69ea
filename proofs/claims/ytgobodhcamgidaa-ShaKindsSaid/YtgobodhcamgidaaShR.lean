/-
  Roots, bit by bit: what is looked for, and that there is one. Products to the base two to the 64. No program in sight.
-/
import Derived.Test.YtgobodhcamgidaaShN
set_option linter.unusedVariables false
set_option linter.unusedSimpArgs false
namespace Go.Bas
/-- la, lb digits; rows below i and of row i the places below k are in; c is carried. -/
def MulW (la lb : Nat) (A B : Int) (g : Nat → Int) (i k : Nat) (c : Int) : Prop :=
  (∀ j, 0 ≤ g j ∧ g j < 18446744073709551616) ∧ (∀ j, i + lb ≤ j → g j = 0) ∧ 0 ≤ c ∧ c < 18446744073709551616 ∧
  sm 18446744073709551616 g (la + lb) + c * 18446744073709551616 ^ (i + k) = (A % 18446744073709551616 ^ i) * B + dg 18446744073709551616 A i * (B % 18446744073709551616 ^ k) * 18446744073709551616 ^ i
theorem MulW.zero (la lb : Nat) (A B : Int) : MulW la lb A B (fun _ => 0) 0 0 0 :=
  ⟨fun _ => by simp, fun _ _ => rfl, by decide, by decide, by rw [sm_zero']; simp [Int.emod_one]⟩
theorem mulw_le {a b : Int} (h0 : 0 ≤ a) (h1 : a ≤ 18446744073709551615) (h2 : 0 ≤ b) (h3 : b ≤ 18446744073709551615) : 0 ≤ a * b ∧ a * b ≤ 340282366920938463426481119284349108225 := by
  refine ⟨Int.mul_nonneg h0 h2, ?_⟩
  have := Int.mul_le_mul h1 h3 h2 (by decide : (0 : Int) ≤ 18446744073709551615)
  omega
theorem MulW.bound {la lb : Nat} {A B : Int} {g : Nat → Int} {i k : Nat} {c : Int} (h : MulW la lb A B g i k c) :
    0 ≤ dg 18446744073709551616 A i * dg 18446744073709551616 B k ∧ dg 18446744073709551616 A i * dg 18446744073709551616 B k ≤ 340282366920938463426481119284349108225 ∧ 0 ≤ g (i + k) + dg 18446744073709551616 A i * dg 18446744073709551616 B k ∧ g (i + k) + dg 18446744073709551616 A i * dg 18446744073709551616 B k < 340282366920938463463374607431768211456 ∧ 0 ≤ g (i + k) + dg 18446744073709551616 A i * dg 18446744073709551616 B k + c ∧ g (i + k) + dg 18446744073709551616 A i * dg 18446744073709551616 B k + c < 340282366920938463463374607431768211456 := by
  have h1 := dg_bound (by decide : (0 : Int) < 18446744073709551616) A i
  have h2 := dg_bound (by decide : (0 : Int) < 18446744073709551616) B k
  have h3 := mulw_le h1.1 (by omega) h2.1 (by omega)
  have h4 := h.1 (i + k)
  have h5 := h.2.2.1
  have h6 := h.2.2.2.1
  omega
theorem MulW.step {la lb : Nat} {A B : Int} {g : Nat → Int} {i k : Nat} {c : Int} (h : MulW la lb A B g i k c) (hi : i < la) (hk : k < lb) :
    MulW la lb A B (upd g (i + k) ((g (i + k) + dg 18446744073709551616 A i * dg 18446744073709551616 B k + c) % 18446744073709551616)) i (k + 1) ((g (i + k) + dg 18446744073709551616 A i * dg 18446744073709551616 B k + c) / 18446744073709551616) := by
  obtain ⟨b1, b2, b3, b4, b5, b6⟩ := h.bound
  obtain ⟨h1, h2, h3, h4, h5⟩ := h
  refine ⟨fun j => ?_, fun j hj => ?_, by omega, by omega, ?_⟩
  · by_cases e : j = i + k
    · subst e; rw [upd_at]; omega
    · rw [upd_ne _ _ e]; exact h1 j
  · rw [upd_ne _ _ (by omega)]; exact h2 j hj
  · rw [sm_upd', if_pos (by omega), mod_succ (by decide) B k, show i + (k + 1) = (i + k) + 1 by omega, Int.pow_succ, Int.pow_add] at *
    generalize hn : g (i + k) + dg 18446744073709551616 A i * dg 18446744073709551616 B k + c = n at *
    generalize hxy : dg 18446744073709551616 A i * dg 18446744073709551616 B k = xy at *
    have e1 := Int.emod_add_mul_ediv n 18446744073709551616
    generalize n % 18446744073709551616 = r at *
    generalize n / 18446744073709551616 = q at *
    generalize sm 18446744073709551616 g (la + lb) = S at *
    generalize (18446744073709551616 : Int) ^ i = p at *
    generalize (18446744073709551616 : Int) ^ k = s at *
    have e2 : dg 18446744073709551616 A i * (B % s + dg 18446744073709551616 B k * s) * p = dg 18446744073709551616 A i * (B % s) * p + xy * (p * s) := by
      rw [← hxy]; grind
    rw [e2]
    have e3 : (r - g (i + k)) * (p * s) + q * (p * s * 18446744073709551616) = (xy + c) * (p * s) := by
      have : r - g (i + k) + q * 18446744073709551616 = xy + c := by omega
      rw [← this]; grind
    rw [Int.add_mul] at e3
    omega
theorem MulW.row {la lb : Nat} {A B : Int} {g : Nat → Int} {i : Nat} {c : Int} (h : MulW la lb A B g i lb c) (hi : i < la) (hB : 0 ≤ B ∧ B < 18446744073709551616 ^ lb) :
    g (i + lb) = 0 ∧ MulW la lb A B (upd g (i + lb) (g (i + lb) + c)) (i + 1) 0 0 := by
  obtain ⟨h1, h2, h3, h4, h5⟩ := h
  have h0 := h2 (i + lb) (Nat.le_refl _)
  refine ⟨h0, fun j => ?_, fun j hj => ?_, by decide, by decide, ?_⟩
  · by_cases e : j = i + lb
    · subst e; rw [upd_at, h0]; omega
    · rw [upd_ne _ _ e]; exact h1 j
  · rw [upd_ne _ _ (by omega)]; exact h2 j (by omega)
  · rw [sm_upd', if_pos (by omega), mod_succ (by decide) A i, h0]
    rw [Int.emod_eq_of_lt hB.1 hB.2] at h5
    have e1 : (A % 18446744073709551616 ^ i + dg 18446744073709551616 A i * 18446744073709551616 ^ i) * B = (A % 18446744073709551616 ^ i) * B + dg 18446744073709551616 A i * B * 18446744073709551616 ^ i := by
      generalize (18446744073709551616 : Int) ^ i = p
      grind
    rw [e1]
    simp [Int.emod_one]
    exact h5
theorem MulW.done {la lb : Nat} {A B : Int} {g : Nat → Int} (h : MulW la lb A B g la 0 0) (hA : 0 ≤ A ∧ A < 18446744073709551616 ^ la) : ∀ i, i < la + lb → g i = dg 18446744073709551616 (A * B) i := by
  obtain ⟨h1, h2, h3, h4, h5⟩ := h
  have h6 : sm 18446744073709551616 g (la + lb) = A * B := by
    rw [Int.emod_eq_of_lt hA.1 hA.2] at h5
    simp [Int.emod_one] at h5
    exact h5
  intro i hi
  rw [← h6, dg_sm (by decide) (fun j _ => h1 j) i hi]
theorem mulw_bound {la lb : Nat} {A B : Int} (hA : 0 ≤ A ∧ A < 18446744073709551616 ^ la) (hB : 0 ≤ B ∧ B < 18446744073709551616 ^ lb) : 0 ≤ A * B ∧ A * B < 18446744073709551616 ^ (la + lb) := by
  refine ⟨Int.mul_nonneg hA.1 hB.1, ?_⟩
  rw [Int.pow_add]
  have h1 : A * B ≤ A * 18446744073709551616 ^ lb := Int.mul_le_mul_of_nonneg_left (by omega) hA.1
  have h2 : A * 18446744073709551616 ^ lb < 18446744073709551616 ^ la * 18446744073709551616 ^ lb := Int.mul_lt_mul_of_pos_right hA.2 (pow_pos' (by decide) _)
  omega
/-- X is the k-th root of p, with 64 k bits more, rounded down. -/
def isRoot (p : Int) (k : Nat) (X : Int) : Prop := 0 ≤ X ∧ X ^ k ≤ p * 2 ^ (64 * k) ∧ p * 2 ^ (64 * k) < (X + 1) ^ k
theorem pow_le {a b : Int} (h0 : 0 ≤ a) (h : a ≤ b) (k : Nat) : a ^ k ≤ b ^ k := by
  induction k with
  | zero => simp
  | succ k ih =>
    rw [Int.pow_succ, Int.pow_succ]
    have h1 : 0 ≤ a ^ k := Int.pow_nonneg h0
    exact Int.mul_le_mul ih h h0 (by omega)
theorem isRoot_unique {p : Int} {k : Nat} {X Y : Int} (hX : isRoot p k X) (hY : isRoot p k Y) : X = Y := by
  obtain ⟨x0, x1, x2⟩ := hX
  obtain ⟨y0, y1, y2⟩ := hY
  have key : ∀ {A B : Int}, 0 ≤ A → 0 ≤ B → B ^ k ≤ p * 2 ^ (64 * k) → p * 2 ^ (64 * k) < (A + 1) ^ k → ¬ A < B := by
    intro A B a0 b0 h1 h2 hlt
    have := pow_le (show 0 ≤ A + 1 by omega) (show A + 1 ≤ B by omega) k
    omega
  have h1 := key x0 y0 y1 x2
  have h2 := key y0 x0 x1 y2
  omega
end Go.Bas
