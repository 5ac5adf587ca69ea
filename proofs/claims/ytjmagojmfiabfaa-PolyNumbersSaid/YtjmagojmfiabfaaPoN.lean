/-
  Numbers modulo two to the 130 less 5, in parts of eight bits. No program in sight.
-/
import Derived.Test.YtjmagojmfiabfaaDig
import Derived.Test.YtjmagojmfiabfaaMulN
namespace Go.Bas

/-- the prime. -/
def PP : Int := 2 ^ 130 - 5
theorem PP_pos : (0 : Int) < PP := by decide
theorem p130 : (2 : Int) ^ 130 = 256 ^ 16 * 4 := by decide
theorem p136 : (256 : Int) ^ 17 = 64 * PP + 320 := by decide
theorem modPP_of {a b c : Int} (h : a = b + PP * c) : a % PP = b % PP := by rw [h, Int.add_mul_emod_self_left]

/-- what is carried into part i. -/
def cu (f : Nat → Int) : Nat → Int
  | 0 => 0
  | i + 1 => (f i + cu f i) / 256
theorem cu_sm (f : Nat → Int) : ∀ k, cu f k = sm 256 f k / 256 ^ k
  | 0 => by simp [cu, sm]
  | k + 1 => by
    rw [cu, cu_sm f k, sm, div_succ (by decide), Int.add_mul_ediv_right _ _ (by have := pow_pos' (by decide : (0 : Int) < 256) k; omega)]
    congr 1; omega
theorem cu_digit (f : Nat → Int) {n k : Nat} (h : k < n) : (f k + cu f k) % 256 = dg 256 (sm 256 f n) k := by
  obtain ⟨d, rfl⟩ : ∃ d, n = (k + 1) + d := ⟨n - (k + 1), by omega⟩
  rw [sm_split, Int.mul_comm (256 ^ (k + 1)), dg_add (by decide) _ _ _ _ (by omega)]
  unfold dg
  rw [sm, Int.add_mul_ediv_right _ _ (by have := pow_pos' (by decide : (0 : Int) < 256) k; omega), cu_sm]
  congr 1; omega
theorem cu_top (f : Nat → Int) (k : Nat) : f k + cu f k = sm 256 f (k + 1) / 256 ^ k := by
  rw [sm, Int.add_mul_ediv_right _ _ (by have := pow_pos' (by decide : (0 : Int) < 256) k; omega), cu_sm]; omega
theorem cu_bound {f : Nat → Int} {M : Int} (n : Nat) (hf : ∀ i, i < n → 0 ≤ f i ∧ f i ≤ M) (hM : 0 ≤ M) : ∀ k, k ≤ n → 0 ≤ cu f k ∧ cu f k ≤ M := by
  intro k
  induction k with
  | zero => intro _; exact ⟨Int.le_refl _, hM⟩
  | succ k ih =>
    intro hk
    have a := ih (by omega)
    have b := hf k (by omega)
    unfold cu; omega
/-- a number's parts: the last one keeps all that is above. -/
def pd (V : Int) : Nat → Int := fun i => if i < 16 then dg 256 V i else V / 256 ^ 16
theorem pd_low (V : Int) {i : Nat} (h : i < 16) : pd V i = dg 256 V i := if_pos h
theorem pd_top (V : Int) : pd V 16 = V / 256 ^ 16 := if_neg (by decide)
theorem sm_pd (V : Int) : sm 256 (pd V) 17 = V := by
  rw [sm, pd_top, sm_congr (g := dg 256 V) (fun i hi => pd_low V hi), sm_dg (by decide)]
  have := Int.emod_add_mul_ediv V (256 ^ 16)
  rw [Int.mul_comm] at this
  exact this
theorem pd_dg {V : Int} (h0 : 0 ≤ V) (h1 : V < 256 ^ 17) : ∀ i, i < 17 → pd V i = dg 256 V i := by
  intro i hi
  by_cases e : i < 16
  · exact pd_low V e
  · obtain rfl : i = 16 := by omega
    rw [pd_top]; unfold dg
    have h2 : V / 256 ^ 16 < 256 := Int.ediv_lt_of_lt_mul (by decide) (by omega)
    have h3 : 0 ≤ V / 256 ^ 16 := Int.ediv_nonneg h0 (by decide)
    omega
/-- what is above bit 130, five times, comes below. -/
def fold5 (V : Int) : Int := V % 2 ^ 130 + 5 * (V / 2 ^ 130)
theorem fold5_mod (V : Int) : fold5 V % PP = V % PP := by
  unfold fold5
  have h := Int.emod_add_mul_ediv V (2 ^ 130)
  refine modPP_of (c := -(V / 2 ^ 130)) ?_
  have e : (2 : Int) ^ 130 = PP + 5 := by decide
  rw [e] at h ⊢
  generalize V / (PP + 5) = q at *
  generalize V % (PP + 5) = r at *
  rw [Int.mul_neg]
  rw [Int.add_mul] at h
  omega
theorem fold5_bound {V : Int} (h0 : 0 ≤ V) (h1 : V < 2 ^ 130 * 1000000000) : 0 ≤ fold5 V ∧ fold5 V < 2 ^ 130 + 5000000000 := by
  unfold fold5
  have h2 := Int.emod_nonneg V (show (2 : Int) ^ 130 ≠ 0 by decide)
  have h3 := Int.emod_lt_of_pos V (show (0 : Int) < 2 ^ 130 by decide)
  have h4 : V / 2 ^ 130 < 1000000000 := Int.ediv_lt_of_lt_mul (by decide) (by omega)
  have h5 := Int.ediv_nonneg h0 (show (0 : Int) ≤ 2 ^ 130 by decide)
  omega
theorem fold5_twice {V : Int} (h0 : 0 ≤ V) (h1 : V < 2 ^ 130 + 5000000000) : 0 ≤ fold5 V ∧ fold5 V < 2 ^ 130 := by
  unfold fold5
  have hp : (10000000000 : Int) < 2 ^ 130 := by decide
  have h2 := Int.emod_nonneg V (show (2 : Int) ^ 130 ≠ 0 by decide)
  have h3 := Int.emod_lt_of_pos V (show (0 : Int) < 2 ^ 130 by decide)
  have h4 := Int.emod_add_mul_ediv V (2 ^ 130)
  generalize (2 : Int) ^ 130 = p at *
  have h5 : 0 ≤ V / p := Int.ediv_nonneg h0 (by omega)
  have h6 : V / p < 2 := Int.ediv_lt_of_lt_mul (by omega) (by omega)
  rcases (by omega : V / p = 0 ∨ V / p = 1) with h7 | h7 <;> rw [h7] at h4 ⊢ <;> omega
/-- the carry into digit k where b is added. -/
def carB (X b : Int) (k : Nat) : Int := (X + b) / 256 ^ k - X / 256 ^ k
theorem carB_zero (X b : Int) : carB X b 0 = b := by simp [carB]; omega
theorem carB_step (X b : Int) (k : Nat) : (dg 256 X k + carB X b k) % 256 = dg 256 (X + b) k ∧ (dg 256 X k + carB X b k) / 256 = carB X b (k + 1) := by
  unfold carB dg
  rw [div_succ (by decide) X, div_succ (by decide) (X + b)]
  omega
theorem carB_bound {X b : Int} (hb : 0 ≤ b) : ∀ k, 0 ≤ carB X b k ∧ carB X b k ≤ b
  | 0 => by rw [carB_zero]; omega
  | k + 1 => by
    have h := carB_bound (X := X) hb k
    have h2 := (carB_step X b k).2
    have h3 := dg_bound (by decide : (0 : Int) < 256) X k
    omega
/-- the parts behind carry. -/
theorem fold_parts (V : Int) : (∀ i, i < 16 → dg 256 (V % 256 ^ 16 + 5 * (V / 256 ^ 16 / 4)) i = pd (fold5 V) i) ∧ V / 256 ^ 16 % 4 + carB (V % 256 ^ 16) (5 * (V / 256 ^ 16 / 4)) 16 = pd (fold5 V) 16 := by
  have e1 : V / 2 ^ 130 = V / 256 ^ 16 / 4 := by rw [p130, Int.ediv_ediv_of_nonneg (by decide)]
  have e2 : V % 2 ^ 130 = V % 256 ^ 16 + V / 256 ^ 16 % 4 * 256 ^ 16 := by
    have h1 := Int.emod_add_mul_ediv V (2 ^ 130)
    have h2 := Int.emod_add_mul_ediv V (256 ^ 16)
    have h3 := Int.emod_add_mul_ediv (V / 256 ^ 16) 4
    rw [e1, p130] at h1
    rw [p130]
    generalize (256 : Int) ^ 16 = p at *
    generalize V / p = q at *
    have h4 : p * q = p * (q % 4) + p * 4 * (q / 4) := by
      conv => lhs; rw [← h3]
      rw [Int.mul_add, Int.mul_assoc]
    rw [Int.mul_comm (q % 4)]
    omega
  have e3 : fold5 V = V % 256 ^ 16 + 5 * (V / 256 ^ 16 / 4) + V / 256 ^ 16 % 4 * 256 ^ 16 := by unfold fold5; rw [e1, e2]; omega
  constructor
  · intro i hi
    rw [pd_low _ hi, e3, dg_add (by decide) _ _ _ _ hi]
  · rw [pd_top, e3, Int.add_mul_ediv_right _ _ (by decide)]
    unfold carB
    have h2 := Int.emod_nonneg V (show (256 : Int) ^ 16 ≠ 0 by decide)
    have h3 := Int.emod_lt_of_pos V (show (0 : Int) < 256 ^ 16 by decide)
    rw [Int.ediv_eq_zero_of_lt h2 h3]
    omega

/-! products -/
/-- what part j of one factor is multiplied with for part i of the product. -/
def rowP (g : Nat → Int) (j i : Nat) : Int := if j ≤ i then g (i - j) else 320 * g (i + 17 - j)
theorem sm_shift (B : Int) (f : Nat → Int) (x : Int) : ∀ n, sm B (fun i => if i = 0 then x else f (i - 1)) (n + 1) = x + B * sm B f n
  | 0 => by simp [sm]
  | n + 1 => by
    rw [sm, sm_shift B f x n, sm, if_neg (by omega), Int.pow_succ, show n + 1 - 1 = n by omega]
    generalize B ^ n = p
    grind
theorem rowP_succ (g : Nat → Int) (j : Nat) (hj : j ≤ 16) : ∀ i, i < 17 → rowP g (j + 1) i = if i = 0 then 320 * rowP g j 16 else rowP g j (i - 1) := by
  intro i hi
  unfold rowP
  by_cases e : i = 0
  · subst e
    rw [if_neg (by omega), if_pos rfl, if_pos hj, show 0 + 17 - (j + 1) = 16 - j by omega]
  · rw [if_neg e]
    by_cases h : j + 1 ≤ i
    · rw [if_pos h, if_pos (by omega), show i - (j + 1) = i - 1 - j by omega]
    · rw [if_neg h, if_neg (by omega), show i + 17 - (j + 1) = i - 1 + 17 - j by omega]
theorem sm_rowP (g : Nat → Int) : ∀ j, j ≤ 17 → sm 256 (rowP g j) 17 % PP = 256 ^ j * sm 256 g 17 % PP := by
  intro j
  induction j with
  | zero =>
    intro _
    rw [Int.pow_zero, Int.one_mul, sm_congr (fun i _ => show rowP g 0 i = g i by unfold rowP; rw [if_pos (Nat.zero_le _), Nat.sub_zero])]
  | succ j ih =>
    intro hj
    have h := ih (by omega)
    rw [sm_congr (rowP_succ g j (by omega)), sm_shift]
    have e1 : sm 256 (rowP g j) 17 = sm 256 (rowP g j) 16 + rowP g j 16 * 256 ^ 16 := rfl
    have e2 : 320 * rowP g j 16 + 256 * sm 256 (rowP g j) 16 = 256 * sm 256 (rowP g j) 17 + PP * (-64 * rowP g j 16) := by
      have h3 : (256 : Int) * 256 ^ 16 = 64 * PP + 320 := by decide
      rw [e1, Int.mul_add]
      have h4 : 256 * (rowP g j 16 * 256 ^ 16) = rowP g j 16 * (64 * PP + 320) := by rw [← h3]; generalize (256 : Int) ^ 16 = p; grind
      rw [h4]
      generalize PP = p
      grind
    rw [modPP_of e2, Int.mul_emod, h, ← Int.mul_emod, Int.pow_succ]
    congr 1
    generalize (256 : Int) ^ j = p
    grind
/-- part i of a product, of which the first n parts of one factor are in. -/
def prodS (f g : Nat → Int) (i : Nat) : Nat → Int
  | 0 => 0
  | n + 1 => prodS f g i n + f n * rowP g n i
theorem prodS_mod (f g : Nat → Int) : ∀ n, n ≤ 17 → sm 256 (fun i => prodS f g i n) 17 % PP = sm 256 f n * sm 256 g 17 % PP := by
  intro n
  induction n with
  | zero => intro _; rw [show sm 256 f 0 = 0 from rfl, Int.zero_mul, show (fun i => prodS f g i 0) = fun _ => (0 : Int) from rfl, sm_zero' 256 17]
  | succ n ih =>
    intro hn
    have e1 : sm 256 (fun i => prodS f g i (n + 1)) 17 = 1 * sm 256 (fun i => prodS f g i n) 17 + f n * sm 256 (rowP g n) 17 := by
      rw [← sm_lin]
      exact sm_congr fun i _ => by rw [prodS]; omega
    rw [e1, Int.one_mul, Int.add_emod, ih (by omega), Int.mul_emod (f n), sm_rowP g n (by omega), ← Int.mul_emod, ← Int.add_emod, show sm 256 f (n + 1) = sm 256 f n + f n * 256 ^ n from rfl]
    congr 1
    generalize (256 : Int) ^ n = p
    grind
theorem prodS_bound {f g : Nat → Int} (hf : ∀ i, i < 17 → 0 ≤ f i ∧ f i ≤ 600) (hg : ∀ i, i < 17 → 0 ≤ g i ∧ g i ≤ 255) (i : Nat) (hi : i < 17) : ∀ n, n ≤ 17 → 0 ≤ prodS f g i n ∧ prodS f g i n ≤ n * 48960000 := by
  intro n
  induction n with
  | zero => intro _; exact ⟨Int.le_refl _, Int.le_refl _⟩
  | succ n ih =>
    intro hn
    have h := ih (by omega)
    have hfn := hf n (by omega)
    have hr : 0 ≤ rowP g n i ∧ rowP g n i ≤ 81600 := by
      unfold rowP
      split
      · have := hg (i - n) (by omega); omega
      · have := hg (i + 17 - n) (by omega); omega
    have m0 := Int.mul_nonneg hfn.1 hr.1
    have m1 : f n * rowP g n i ≤ 600 * 81600 := Int.mul_le_mul hfn.2 hr.2 hr.1 (by decide)
    rw [prodS]
    push_cast
    omega
end Go.Bas
