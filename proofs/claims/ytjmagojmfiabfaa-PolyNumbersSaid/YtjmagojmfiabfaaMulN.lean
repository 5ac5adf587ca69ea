/-
  The digits of a product, row by row with a carry: no program in sight.
-/
import Derived.Test.YtjmagojmfiabfaaNum
namespace Go.Bas

theorem upd_at (f : Nat → Int) (p : Nat) (v : Int) : upd f p v p = v := if_pos rfl
theorem upd_ne (f : Nat → Int) {p i : Nat} (v : Int) (h : i ≠ p) : upd f p v i = f i := if_neg h
theorem upd_upd (f : Nat → Int) (p : Nat) (u v : Int) (i : Nat) : upd (upd f p u) p v i = upd f p v i := by
  unfold upd; split <;> rfl
theorem sm_upd' (B : Int) (f : Nat → Int) (p : Nat) (v : Int) : ∀ n, sm B (upd f p v) n = sm B f n + (if p < n then (v - f p) * B ^ p else 0)
  | 0 => by simp [sm]
  | n + 1 => by
    rw [sm, sm, sm_upd' B f p v n]
    by_cases e : n = p
    · subst e
      rw [if_neg (by omega), if_pos (by omega), show upd f n v n = v from if_pos rfl, Int.sub_mul]; omega
    · rw [show upd f p v n = f n from if_neg (by omega)]
      by_cases h : p < n
      · rw [if_pos h, if_pos (by omega)]; omega
      · rw [if_neg h, if_neg (by omega)]; omega
theorem sm_zero' (B : Int) : ∀ n, sm B (fun _ => 0) n = 0
  | 0 => rfl
  | n + 1 => by rw [sm, sm_zero' B n]; simp

theorem sm_lin (B : Int) (f g : Nat → Int) (a b : Int) : ∀ n, sm B (fun i => a * f i + b * g i) n = a * sm B f n + b * sm B g n
  | 0 => by simp [sm]
  | n + 1 => by
    rw [sm, sm, sm, sm_lin B f g a b n]
    generalize B ^ n = p
    grind
theorem sm_split (B : Int) (f : Nat → Int) (m : Nat) : ∀ n, sm B f (m + n) = sm B f m + B ^ m * sm B (fun i => f (m + i)) n
  | 0 => by simp [sm]
  | n + 1 => by
    rw [← Nat.add_assoc, sm, sm, sm_split B f m n, Int.pow_add]
    grind

/-- la, lb digits; rows below i and of row i the places below k are in; c is carried. -/
def MulInv (la lb : Nat) (A B : Int) (g : Nat → Int) (i k : Nat) (c : Int) : Prop :=
  (∀ j, 0 ≤ g j ∧ g j < 65536) ∧ (∀ j, i + lb ≤ j → g j = 0) ∧ 0 ≤ c ∧ c < 65536 ∧
  sm 65536 g (la + lb) + c * 65536 ^ (i + k) = (A % 65536 ^ i) * B + dg 65536 A i * (B % 65536 ^ k) * 65536 ^ i
theorem MulInv.zero (la lb : Nat) (A B : Int) : MulInv la lb A B (fun _ => 0) 0 0 0 :=
  ⟨fun _ => by simp, fun _ _ => rfl, by decide, by decide, by rw [sm_zero']; simp [Int.emod_one]⟩
theorem mul_le' {a b : Int} (h0 : 0 ≤ a) (h1 : a ≤ 65535) (h2 : 0 ≤ b) (h3 : b ≤ 65535) : 0 ≤ a * b ∧ a * b ≤ 4294836225 := by
  refine ⟨Int.mul_nonneg h0 h2, ?_⟩
  have := Int.mul_le_mul h1 h3 h2 (by decide : (0 : Int) ≤ 65535)
  omega
theorem MulInv.bound {la lb : Nat} {A B : Int} {g : Nat → Int} {i k : Nat} {c : Int} (h : MulInv la lb A B g i k c) :
    0 ≤ dg 65536 A i * dg 65536 B k ∧ dg 65536 A i * dg 65536 B k ≤ 4294836225 ∧ 0 ≤ g (i + k) + dg 65536 A i * dg 65536 B k ∧ g (i + k) + dg 65536 A i * dg 65536 B k < 4294967296 ∧ 0 ≤ g (i + k) + dg 65536 A i * dg 65536 B k + c ∧ g (i + k) + dg 65536 A i * dg 65536 B k + c < 4294967296 := by
  have h1 := dg_bound (by decide : (0 : Int) < 65536) A i
  have h2 := dg_bound (by decide : (0 : Int) < 65536) B k
  have h3 := mul_le' h1.1 (by omega) h2.1 (by omega)
  have h4 := h.1 (i + k)
  have h5 := h.2.2.1
  have h6 := h.2.2.2.1
  omega
theorem MulInv.step {la lb : Nat} {A B : Int} {g : Nat → Int} {i k : Nat} {c : Int} (h : MulInv la lb A B g i k c) (hi : i < la) (hk : k < lb) :
    MulInv la lb A B (upd g (i + k) ((g (i + k) + dg 65536 A i * dg 65536 B k + c) % 65536)) i (k + 1) ((g (i + k) + dg 65536 A i * dg 65536 B k + c) / 65536) := by
  obtain ⟨b1, b2, b3, b4, b5, b6⟩ := h.bound
  obtain ⟨h1, h2, h3, h4, h5⟩ := h
  refine ⟨fun j => ?_, fun j hj => ?_, by omega, by omega, ?_⟩
  · by_cases e : j = i + k
    · subst e; rw [upd_at]; omega
    · rw [upd_ne _ _ e]; exact h1 j
  · rw [upd_ne _ _ (by omega)]; exact h2 j hj
  · rw [sm_upd', if_pos (by omega), mod_succ (by decide) B k, show i + (k + 1) = (i + k) + 1 by omega, Int.pow_succ, Int.pow_add] at *
    generalize hn : g (i + k) + dg 65536 A i * dg 65536 B k + c = n at *
    generalize hxy : dg 65536 A i * dg 65536 B k = xy at *
    have e1 := Int.emod_add_mul_ediv n 65536
    generalize n % 65536 = r at *
    generalize n / 65536 = q at *
    generalize sm 65536 g (la + lb) = S at *
    generalize (65536 : Int) ^ i = p at *
    generalize (65536 : Int) ^ k = s at *
    have e2 : dg 65536 A i * (B % s + dg 65536 B k * s) * p = dg 65536 A i * (B % s) * p + xy * (p * s) := by
      rw [← hxy]; grind
    rw [e2]
    have e3 : (r - g (i + k)) * (p * s) + q * (p * s * 65536) = (xy + c) * (p * s) := by
      have : r - g (i + k) + q * 65536 = xy + c := by omega
      rw [← this]; grind
    rw [Int.add_mul] at e3
    omega
theorem MulInv.row {la lb : Nat} {A B : Int} {g : Nat → Int} {i : Nat} {c : Int} (h : MulInv la lb A B g i lb c) (hi : i < la) (hB : 0 ≤ B ∧ B < 65536 ^ lb) :
    g (i + lb) = 0 ∧ MulInv la lb A B (upd g (i + lb) (g (i + lb) + c)) (i + 1) 0 0 := by
  obtain ⟨h1, h2, h3, h4, h5⟩ := h
  have h0 := h2 (i + lb) (Nat.le_refl _)
  refine ⟨h0, fun j => ?_, fun j hj => ?_, by decide, by decide, ?_⟩
  · by_cases e : j = i + lb
    · subst e; rw [upd_at, h0]; omega
    · rw [upd_ne _ _ e]; exact h1 j
  · rw [upd_ne _ _ (by omega)]; exact h2 j (by omega)
  · rw [sm_upd', if_pos (by omega), mod_succ (by decide) A i, h0]
    rw [Int.emod_eq_of_lt hB.1 hB.2] at h5
    have e1 : (A % 65536 ^ i + dg 65536 A i * 65536 ^ i) * B = (A % 65536 ^ i) * B + dg 65536 A i * B * 65536 ^ i := by
      generalize (65536 : Int) ^ i = p
      grind
    rw [e1]
    simp [Int.emod_one]
    exact h5
theorem MulInv.done {la lb : Nat} {A B : Int} {g : Nat → Int} (h : MulInv la lb A B g la 0 0) (hA : 0 ≤ A ∧ A < 65536 ^ la) : ∀ i, i < la + lb → g i = dg 65536 (A * B) i := by
  obtain ⟨h1, h2, h3, h4, h5⟩ := h
  have h6 : sm 65536 g (la + lb) = A * B := by
    rw [Int.emod_eq_of_lt hA.1 hA.2] at h5
    simp [Int.emod_one] at h5
    exact h5
  intro i hi
  rw [← h6, dg_sm (by decide) (fun j _ => h1 j) i hi]
theorem mul_bound {la lb : Nat} {A B : Int} (hA : 0 ≤ A ∧ A < 65536 ^ la) (hB : 0 ≤ B ∧ B < 65536 ^ lb) : 0 ≤ A * B ∧ A * B < 65536 ^ (la + lb) := by
  refine ⟨Int.mul_nonneg hA.1 hB.1, ?_⟩
  rw [Int.pow_add]
  have h1 : A * B ≤ A * 65536 ^ lb := Int.mul_le_mul_of_nonneg_left (by omega) hA.1
  have h2 : A * 65536 ^ lb < 65536 ^ la * 65536 ^ lb := Int.mul_lt_mul_of_pos_right hA.2 (pow_pos' (by decide) _)
  omega
end Go.Bas
