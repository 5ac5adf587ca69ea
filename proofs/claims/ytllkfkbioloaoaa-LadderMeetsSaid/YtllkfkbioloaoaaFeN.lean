/-
  Elements of the field as sixteen limbs: carries, sums, products. No program in sight.
-/
import Derived.Test.YtllkfkbioloaoaaNum
set_option linter.unusedVariables false
set_option linter.unusedSimpArgs false
namespace Go.Bas

/-- the prime. -/
def Pr : Int := 2 ^ 255 - 19
theorem Pr_eq : (65536 : Int) ^ 16 = 2 * Pr + 38 := by decide
theorem Pr_pos : (0 : Int) < Pr := by decide
theorem Pr16 : (0 : Int) ≤ Pr ∧ Pr < 65536 ^ 16 := by decide

/-- what is carried into limb i. -/
def cin (f : Nat → Int) : Nat → Int
  | 0 => 0
  | i + 1 => (f i + cin f i) / 65536
/-- the limbs behind carry. -/
def crr (f : Nat → Int) : Nat → Int := fun i => if i = 0 then f 0 % 65536 + 38 * cin f 16 else (f i + cin f i) % 65536
/-- the limbs ahead of round k. -/
def crs (f : Nat → Int) (k : Nat) : Nat → Int := if k = 16 then crr f else fun i => if i < k then (f i + cin f i) % 65536 else if i = k then f k + cin f k else f i
theorem crs_zero (f : Nat → Int) : ∀ i, i < 16 → f i = crs f 0 i := by
  intro i hi
  unfold crs
  rw [if_neg (by decide), if_neg (by omega)]
  by_cases e : i = 0
  · subst e; simp [cin]
  · rw [if_neg e]
theorem crs_at (f : Nat → Int) {k : Nat} (h : k < 16) : crs f k k = f k + cin f k := by
  unfold crs; rw [if_neg (by omega), if_neg (by omega), if_pos rfl]
theorem crs_after (f : Nat → Int) {k : Nat} (h : k < 15) : crs f k (k + 1) = f (k + 1) := by
  unfold crs; rw [if_neg (by omega), if_neg (by omega), if_neg (by omega)]
theorem crs_head (f : Nat → Int) : crs f 15 0 = f 0 % 65536 := by
  unfold crs; rw [if_neg (by decide), if_pos (by decide)]; simp [cin]
theorem crs_step (f : Nat → Int) {k : Nat} (h : k < 15) : ∀ i, i < 16 → upd (upd (crs f k) k ((f k + cin f k) % 65536)) (k + 1) (f (k + 1) + (f k + cin f k) / 65536) i = crs f (k + 1) i := by
  intro i hi
  by_cases e1 : i = k + 1
  · subst e1; rw [upd_at, crs_at f (by omega)]; rfl
  · rw [upd_ne _ _ e1]
    by_cases e : i = k
    · subst e; rw [upd_at]; unfold crs; rw [if_neg (by omega), if_pos (by omega)]
    · rw [upd_ne _ _ e]; unfold crs; rw [if_neg (show ¬ k = 16 by omega), if_neg (show ¬ k + 1 = 16 by omega)]
      by_cases h1 : i < k
      · rw [if_pos h1, if_pos (by omega)]
      · rw [if_neg h1, if_neg e, if_neg (by omega), if_neg (by omega)]
theorem crs_last (f : Nat → Int) : ∀ i, i < 16 → upd (upd (crs f 15) 15 ((f 15 + cin f 15) % 65536)) 0 (f 0 % 65536 + 38 * ((f 15 + cin f 15) / 65536)) i = crs f 16 i := by
  intro i hi
  have e : crs f 16 = crr f := if_pos rfl
  rw [e]
  unfold crr
  by_cases e1 : i = 0
  · subst e1; rw [upd_at, if_pos rfl]; rfl
  · rw [upd_ne _ _ e1, if_neg e1]
    by_cases e : i = 15
    · subst e; rw [upd_at]
    · rw [upd_ne _ _ e]; unfold crs; rw [if_neg (by decide), if_pos (by omega)]
theorem crs_full (f : Nat → Int) : crs f 16 = crr f := if_pos rfl

theorem cin_bound {f : Nat → Int} {lo hi cl ch : Int} (hf : ∀ i, i < 16 → lo ≤ f i ∧ f i ≤ hi) (h0 : cl ≤ 0) (h1 : 0 ≤ ch) (h2 : cl ≤ (lo + cl) / 65536) (h3 : (hi + ch) / 65536 ≤ ch) :
    ∀ i, i ≤ 16 → cl ≤ cin f i ∧ cin f i ≤ ch := by
  intro i
  induction i with
  | zero => intro _; exact ⟨h0, h1⟩
  | succ i ih =>
    intro hi'
    have a := ih (by omega)
    have b := hf i (by omega)
    unfold cin
    omega
theorem sm_cin (f : Nat → Int) : ∀ n, sm 65536 (fun i => (f i + cin f i) % 65536) n = sm 65536 f n - cin f n * 65536 ^ n
  | 0 => by simp [sm, cin]
  | n + 1 => by
    rw [sm, sm, sm_cin f n, Int.pow_succ]
    have e : cin f (n + 1) = (f n + cin f n) / 65536 := rfl
    rw [e]
    have h := Int.emod_add_mul_ediv (f n + cin f n) 65536
    generalize (f n + cin f n) / 65536 = q at *
    generalize (f n + cin f n) % 65536 = r at *
    generalize (65536 : Int) ^ n = p at *
    have h2 : (r + 65536 * q) * p = (f n + cin f n) * p := by rw [h]
    grind
theorem sm_crr (f : Nat → Int) : sm 65536 (crr f) 16 = sm 65536 f 16 - 2 * Pr * cin f 16 := by
  have e : crr f = upd (fun i => (f i + cin f i) % 65536) 0 (f 0 % 65536 + 38 * cin f 16) := by
    funext i; unfold crr upd; rfl
  rw [e, sm_upd', if_pos (by decide), sm_cin, Pr_eq]
  simp only [cin, Int.add_zero, Int.pow_zero, Int.mul_one]
  generalize Pr = p
  grind
/-- limbs as every operation leaves them. -/
def Near (f : Nat → Int) : Prop := (∀ i, i < 16 → 0 < i → 0 ≤ f i ∧ f i ≤ 65535) ∧ -100 ≤ f 0 ∧ f 0 ≤ 65700
/-- limbs that stand for X. -/
def Fe (f : Nat → Int) (X : Int) : Prop := Near f ∧ sm 65536 f 16 % Pr = X % Pr
theorem Near.bound {f : Nat → Int} (h : Near f) : ∀ i, i < 16 → -100 ≤ f i ∧ f i ≤ 65700 := by
  intro i hi
  by_cases e : i = 0
  · subst e; exact h.2
  · have := h.1 i hi (by omega); omega
theorem near_crr {f : Nat → Int} (c0 : -2 ≤ cin f 16) (c1 : cin f 16 ≤ 3) : Near (crr f) := by
  refine ⟨fun i hi h0 => ?_, ?_, ?_⟩
  · unfold crr; rw [if_neg (by omega)]; omega
  · unfold crr; rw [if_pos rfl]; omega
  · unfold crr; rw [if_pos rfl]; omega
theorem mod_eq_of {a b c : Int} (h : a = b + Pr * c) : a % Pr = b % Pr := by rw [h, Int.add_mul_emod_self_left]
theorem crr_mod (f : Nat → Int) : sm 65536 (crr f) 16 % Pr = sm 65536 f 16 % Pr :=
  mod_eq_of (c := -(2 * cin f 16)) (by rw [sm_crr]; generalize Pr = p; grind)
theorem Fe.add {f g : Nat → Int} {X Y : Int} (hf : Fe f X) (hg : Fe g Y) : Fe (crr (fun i => f i + g i)) (X + Y) := by
  have hb := cin_bound (f := fun i => f i + g i) (lo := -200) (hi := 131400) (cl := -2) (ch := 3) (fun i hi => by have := hf.1.bound i hi; have := hg.1.bound i hi; omega) (by decide) (by decide) (by decide) (by decide) 16 (Nat.le_refl _)
  refine ⟨near_crr hb.1 hb.2, ?_⟩
  rw [crr_mod]
  have e := sm_lin 65536 f g 1 1 16
  simp only [Int.one_mul] at e
  rw [e, Int.add_emod, hf.2, hg.2, ← Int.add_emod]
theorem Fe.sub {f g : Nat → Int} {X Y : Int} (hf : Fe f X) (hg : Fe g Y) : Fe (crr (fun i => f i - g i)) (X - Y) := by
  have hb := cin_bound (f := fun i => f i - g i) (lo := -65800) (hi := 65800) (cl := -2) (ch := 2) (fun i hi => by have := hf.1.bound i hi; have := hg.1.bound i hi; omega) (by decide) (by decide) (by decide) (by decide) 16 (Nat.le_refl _)
  refine ⟨near_crr hb.1 (by omega), ?_⟩
  rw [crr_mod]
  have e := sm_lin 65536 f g 1 (-1) 16
  have e2 : (fun i => f i - g i) = fun i => 1 * f i + -1 * g i := by funext i; omega
  rw [e2, e, show (1 : Int) * sm 65536 f 16 + -1 * sm 65536 g 16 = sm 65536 f 16 - sm 65536 g 16 by omega, Int.sub_emod, hf.2, hg.2, ← Int.sub_emod]
theorem sm_dg16 {X : Int} (h : 0 ≤ X ∧ X < 65536 ^ 16) : sm 65536 (dg 65536 X) 16 = X := by rw [sm_dg (by decide), Int.emod_eq_of_lt h.1 h.2]
/-- one carry makes limbs just digits. -/
theorem Fe.canon {f : Nat → Int} {X : Int} (h : Fe f X) : ∃ Y : Int, 0 ≤ Y ∧ Y < 65536 ^ 16 ∧ Y % Pr = X % Pr ∧ ∀ i, i < 16 → crr f i = dg 65536 Y i := by
  have hd : ∀ i, i < 16 → 0 ≤ crr f i ∧ crr f i < 65536 := by
    have hc : ∀ i, i ≤ 16 → 0 < i → (cin f i = 0) ∨ (cin f i = -1 ∧ -100 ≤ f 0 ∧ f 0 < 0) ∨ (cin f i = 1 ∧ 65536 ≤ f 0 ∧ f 0 ≤ 65700) := by
      intro i
      induction i with
      | zero => intro _ h; omega
      | succ i ih =>
        intro hi _
        unfold cin
        by_cases e : i = 0
        · subst e
          have := h.1.2
          simp only [cin]
          omega
        · have a := ih (by omega) (by omega)
          have b := h.1.1 i (by omega) (by omega)
          omega
    intro i hi
    unfold crr
    by_cases e : i = 0
    · subst e
      rw [if_pos rfl]
      have := hc 16 (by decide) (by decide)
      omega
    · rw [if_neg e]; omega
  refine ⟨sm 65536 (crr f) 16, (sm_bound (by decide) hd).1, (sm_bound (by decide) hd).2, ?_, fun i hi => (dg_sm (by decide) hd i hi).symm⟩
  rw [crr_mod, h.2]
theorem cin_dg {f : Nat → Int} (h : ∀ i, i < 16 → 0 ≤ f i ∧ f i < 65536) : ∀ i, i ≤ 16 → cin f i = 0 := by
  intro i
  induction i with
  | zero => intro _; rfl
  | succ i ih =>
    intro hi
    unfold cin
    rw [ih (by omega)]
    have := h i (by omega)
    omega
theorem crr_dg {f : Nat → Int} (h : ∀ i, i < 16 → 0 ≤ f i ∧ f i < 65536) : ∀ i, i < 16 → crr f i = f i := by
  intro i hi
  unfold crr
  rw [cin_dg h i (by omega), cin_dg h 16 (by omega)]
  have := h i hi
  split
  · rename_i e; subst e; omega
  · omega
theorem cin_congr {f g : Nat → Int} (h : ∀ i, i < 16 → f i = g i) : ∀ i, i ≤ 16 → cin f i = cin g i := by
  intro i
  induction i with
  | zero => intro _; rfl
  | succ i ih => intro hi; unfold cin; rw [ih (by omega), h i (by omega)]
theorem crr_congr {f g : Nat → Int} (h : ∀ i, i < 16 → f i = g i) : ∀ i, i < 16 → crr f i = crr g i := by
  intro i hi
  unfold crr
  rw [cin_congr h i (by omega), cin_congr h 16 (by omega), h i hi, h 0 (by omega)]
theorem Fe.congr {f g : Nat → Int} {X : Int} (h : Fe f X) (e : ∀ i, i < 16 → f i = g i) : Fe g X := by
  refine ⟨⟨fun i hi h0 => by rw [← e i hi]; exact h.1.1 i hi h0, by rw [← e 0 (by decide)]; exact h.1.2⟩, ?_⟩
  rw [← sm_congr e]; exact h.2
theorem Fe.dg {X Y : Int} (h0 : 0 ≤ Y) (h1 : Y < 65536 ^ 16) (h : Y % Pr = X % Pr) : Fe (dg 65536 Y) X := by
  refine ⟨⟨fun i _ _ => by have := dg_bound (by decide : (0 : Int) < 65536) Y i; omega, by have := dg_bound (by decide : (0 : Int) < 65536) Y 0; omega, by have := dg_bound (by decide : (0 : Int) < 65536) Y 0; omega⟩, ?_⟩
  rw [sm_dg16 ⟨h0, h1⟩, h]
theorem Fe.mod {f : Nat → Int} {X Y : Int} (h : Fe f X) (e : X % Pr = Y % Pr) : Fe f Y := ⟨h.1, by rw [h.2, e]⟩

/-- less the prime, if that is not below 0. -/
def sub1 (Y : Int) : Int := if Pr ≤ Y then Y - Pr else Y
theorem sub1_twice {Y : Int} (h0 : 0 ≤ Y) (h1 : Y < 65536 ^ 16) : sub1 (sub1 Y) = Y % Pr := by
  rw [Pr_eq] at h1
  unfold sub1
  have hp : (38 : Int) < Pr := by decide
  have key : ∀ q r : Int, Y = Pr * q + r → 0 ≤ r → r < Pr → Y % Pr = r := by
    intro q r e a b
    rw [e, Int.add_comm, Int.add_mul_emod_self_left, Int.emod_eq_of_lt a b]
  generalize Pr = p at *
  split
  · split
    · exact (key 2 _ (by omega) (by omega) (by omega)).symm
    · exact (key 1 _ (by omega) (by omega) (by omega)).symm
  · exact (key 0 _ (by omega) (by omega) (by omega)).symm
theorem sub1_bound {Y : Int} (h0 : 0 ≤ Y) (h1 : Y < 65536 ^ 16) : 0 ≤ sub1 Y ∧ sub1 Y < 65536 ^ 16 := by
  have := Pr_pos
  unfold sub1
  split <;> omega

/-- the columns of a product, of which rows below i and of row i the columns below j have been added. -/
def FeCols (t x y : Nat → Int) (i j : Nat) : Prop :=
  sm 65536 t 31 = sm 65536 x i * sm 65536 y 16 + x i * 65536 ^ i * sm 65536 y j ∧
  ∀ k, (k < i + j → -((i + 1) * 4316490000) ≤ t k ∧ t k ≤ (i + 1) * 4316490000) ∧ (i + j ≤ k → -(i * 4316490000) ≤ t k ∧ t k ≤ i * 4316490000)
theorem FeCols.zero (x y : Nat → Int) : FeCols (fun _ => 0) x y 0 0 := by
  refine ⟨?_, fun k => ⟨fun h => by simp, fun h => by simp⟩⟩
  rw [sm_zero', show sm 65536 x 0 = 0 from rfl, show sm 65536 y 0 = 0 from rfl]; simp
theorem FeCols.row {t x y : Nat → Int} {i : Nat} (h : FeCols t x y i 16) : FeCols t x y (i + 1) 0 := by
  refine ⟨?_, fun k => ⟨fun hk => ?_, fun hk => ?_⟩⟩
  · rw [h.1, show sm 65536 x (i + 1) = sm 65536 x i + x i * 65536 ^ i from rfl, show sm 65536 y 0 = 0 from rfl, Int.add_mul, Int.mul_zero, Int.add_zero]
  · have := (h.2 k).1 (by omega); push_cast; omega
  · rcases Nat.lt_or_ge k (i + 16) with h' | h'
    · have := (h.2 k).1 h'; push_cast; omega
    · have := (h.2 k).2 h'; push_cast; omega
theorem near_mul {a b : Int} (h0 : -100 ≤ a) (h1 : a ≤ 65700) (h2 : -100 ≤ b) (h3 : b ≤ 65700) : -4316490000 ≤ a * b ∧ a * b ≤ 4316490000 := by
  have e : a * b = (a + 100) * (b + 100) - 100 * a - 100 * b - 10000 := by grind
  have m0 : 0 ≤ (a + 100) * (b + 100) := Int.mul_nonneg (by omega) (by omega)
  by_cases ha : 0 ≤ a
  · by_cases hb : 0 ≤ b
    · have := Int.mul_nonneg ha hb
      have := Int.mul_le_mul h1 h3 hb (by decide : (0 : Int) ≤ 65700)
      omega
    · have h4 : 0 ≤ a * (-b) := Int.mul_nonneg ha (by omega)
      have h5 : a * (-b) ≤ 65700 * 100 := Int.mul_le_mul h1 (by omega) (by omega) (by decide)
      rw [Int.mul_neg] at h4 h5
      omega
  · by_cases hb : 0 ≤ b
    · have h4 : 0 ≤ (-a) * b := Int.mul_nonneg (by omega) hb
      have h5 : (-a) * b ≤ 100 * 65700 := Int.mul_le_mul (by omega) h3 hb (by decide)
      rw [Int.neg_mul] at h4 h5
      omega
    · have h4 : 0 ≤ (-a) * (-b) := Int.mul_nonneg (by omega) (by omega)
      have h5 : (-a) * (-b) ≤ 100 * 100 := Int.mul_le_mul (by omega) (by omega) (by omega) (by decide)
      rw [Int.neg_mul_neg] at h4 h5
      omega
theorem FeCols.bound {t x y : Nat → Int} {i j : Nat} (h : FeCols t x y i j) (hi : i ≤ 16) (k : Nat) : -73380330000 ≤ t k ∧ t k ≤ 73380330000 := by
  rcases Nat.lt_or_ge k (i + j) with h' | h'
  · have := (h.2 k).1 h'; omega
  · have := (h.2 k).2 h'; omega
theorem FeCols.step {t x y : Nat → Int} {i j : Nat} (h : FeCols t x y i j) (hi : i < 16) (hj : j < 16) (hx : Near x) (hy : Near y) : FeCols (upd t (i + j) (t (i + j) + x i * y j)) x y i (j + 1) := by
  have bx := hx.bound i hi
  have by' := hy.bound j hj
  have hm := near_mul bx.1 bx.2 by'.1 by'.2
  refine ⟨?_, fun k => ?_⟩
  · rw [sm_upd', if_pos (by omega), h.1, show sm 65536 y (j + 1) = sm 65536 y j + y j * 65536 ^ j from rfl, show t (i + j) + x i * y j - t (i + j) = x i * y j by omega, Int.pow_add]
    generalize (65536 : Int) ^ i = p
    generalize (65536 : Int) ^ j = q
    grind
  · by_cases e : k = i + j
    · subst e
      have h2 := (h.2 (i + j)).2 (Nat.le_refl _)
      rw [upd_at]
      exact ⟨fun _ => by omega, fun hk => by omega⟩
    · rw [upd_ne _ _ e]
      exact ⟨fun hk => (h.2 k).1 (by omega), fun hk => (h.2 k).2 (by omega)⟩
/-- the columns above the sixteenth come in at the bottom, times 38. -/
theorem Fe.mul {t f g : Nat → Int} {X Y : Int} (h : FeCols t f g 16 0) (hf : Fe f X) (hg : Fe g Y) : Fe (crr (crr (fun i => if i < 15 then t i + 38 * t (16 + i) else t i))) (X * Y) := by
  have ho : ∀ i, i < 16 → -3000000000000 ≤ (if i < 15 then t i + 38 * t (16 + i) else t i) ∧ (if i < 15 then t i + 38 * t (16 + i) else t i) ≤ 3000000000000 := by
    intro i hi
    have a := h.bound (Nat.le_refl _) i
    have b := h.bound (Nat.le_refl _) (16 + i)
    split <;> omega
  have c1 := cin_bound ho (cl := -46000000) (ch := 46000000) (by decide) (by decide) (by decide) (by decide)
  generalize ho' : (fun i => if i < 15 then t i + 38 * t (16 + i) else t i) = o at *
  have hco : ∀ i, i < 16 → -1750000000 ≤ crr o i ∧ crr o i ≤ 1750000000 := by
    intro i hi
    have := c1 16 (Nat.le_refl _)
    unfold crr
    split <;> omega
  have hnn : ∀ i, i < 16 → 0 < i → 0 ≤ crr o i ∧ crr o i ≤ 65535 := by
    intro i hi h0
    unfold crr
    rw [if_neg (by omega)]
    omega
  have c2 : ∀ i, 1 < i → i ≤ 16 → -1 ≤ cin (crr o) i ∧ cin (crr o) i ≤ 1 := by
    intro i
    induction i with
    | zero => intro h; omega
    | succ i ih =>
      intro h1 h2
      have e : cin (crr o) (i + 1) = (crr o i + cin (crr o) i) / 65536 := rfl
      rw [e]
      have a := hnn i (by omega) (by omega)
      by_cases e1 : i = 1
      · subst e1
        have e2 : cin (crr o) 1 = (crr o 0 + 0) / 65536 := rfl
        have b := hco 0 (by decide)
        omega
      · have b := ih (by omega) (by omega)
        omega
  have c3 := c2 16 (by decide) (by decide)
  refine ⟨near_crr (by omega) (by omega), ?_⟩
  rw [crr_mod, crr_mod, ← ho']
  have e1 : sm 65536 (fun i => if i < 15 then t i + 38 * t (16 + i) else t i) 16 = sm 65536 t 16 + 38 * sm 65536 (fun i => t (16 + i)) 15 := by
    have e2 : sm 65536 (fun i => if i < 15 then t i + 38 * t (16 + i) else t i) 15 = sm 65536 (fun i => 1 * t i + 38 * t (16 + i)) 15 := sm_congr fun i hi => by rw [if_pos hi]; omega
    rw [sm, e2, sm_lin, show sm 65536 t 16 = sm 65536 t 15 + t 15 * 65536 ^ 15 from rfl, if_neg (by decide)]
    omega
  have e3 := sm_split 65536 t 16 15
  have e4 := h.1
  rw [show (16 : Nat) + 15 = 31 from rfl] at e3
  rw [e4, show sm 65536 g 0 = 0 from rfl, Int.mul_zero, Int.add_zero, Pr_eq] at e3
  rw [e1]
  have e5 : sm 65536 t 16 + 38 * sm 65536 (fun i => t (16 + i)) 15 = sm 65536 f 16 * sm 65536 g 16 + Pr * (-2 * sm 65536 (fun i => t (16 + i)) 15) := by
    generalize Pr = p at *
    generalize sm 65536 (fun i => t (16 + i)) 15 = s at *
    generalize sm 65536 t 16 = u at *
    rw [e3]
    grind
  rw [mod_eq_of e5, Int.mul_emod, hf.2, hg.2, ← Int.mul_emod]
theorem top_bit (X : Int) : ∀ i, i < 16 → upd (dg 65536 X) 15 (dg 65536 X 15 % 32768) i = dg 65536 (X % 2 ^ 255) i := by
  intro i hi
  have hM : (2 : Int) ^ 255 = 65536 ^ 15 * 32768 := by decide
  rw [hM]
  have h1 := Int.emod_add_mul_ediv X (65536 ^ 15 * 32768)
  by_cases e : i = 15
  · subst e
    rw [upd_at]
    unfold dg
    have h2 : (X % (65536 ^ 15 * 32768)) / 65536 ^ 15 = X / 65536 ^ 15 % 32768 := by
      have hp : (0 : Int) < 65536 ^ 15 := by decide
      generalize (65536 : Int) ^ 15 = p at *
      have h3 := Int.emod_add_mul_ediv X p
      have h4 := Int.emod_add_mul_ediv (X / p) 32768
      have h5 := Int.emod_nonneg X (show p ≠ 0 by omega)
      have h6 := Int.emod_lt_of_pos X hp
      have h7 : X / (p * 32768) = X / p / 32768 := (Int.ediv_ediv_of_nonneg (by omega)).symm
      rw [h7] at h1
      have h8 : X % (p * 32768) = X % p + X / p % 32768 * p := by
        have : p * (X / p) = p * (X / p % 32768) + p * 32768 * (X / p / 32768) := by
          conv => lhs; rw [← h4]
          rw [Int.mul_add, Int.mul_assoc]
        rw [Int.mul_comm (X / p % 32768)]
        omega
      rw [h8, Int.add_mul_ediv_right _ _ (by omega), Int.ediv_eq_zero_of_lt h5 h6, Int.zero_add]
    rw [h2]
    omega
  · rw [upd_ne _ _ e]
    conv => lhs; rw [← h1]
    rw [show (65536 : Int) ^ 15 * 32768 * (X / (65536 ^ 15 * 32768)) = 32768 * (X / (65536 ^ 15 * 32768)) * 65536 ^ 15 by
      generalize X / (65536 ^ 15 * 32768) = q
      rw [Int.mul_assoc, Int.mul_comm], dg_add (by decide) _ _ _ _ (by omega)]
theorem mod255 (X : Int) : 0 ≤ X % 2 ^ 255 ∧ X % 2 ^ 255 < 65536 ^ 16 := by
  have h := Int.emod_lt_of_pos X (show (0 : Int) < 2 ^ 255 by decide)
  exact ⟨Int.emod_nonneg _ (by decide), Int.lt_trans h (by decide)⟩


/-! the digits above and below bit 255 -/
theorem p255 : (2 : Int) ^ 255 = 65536 ^ 15 * 32768 := by decide
theorem hi_digit (X : Int) (j : Nat) : dg 65536 X (15 + j) / 32768 + dg 65536 X (16 + j) % 32768 * 2 = dg 65536 (X / 2 ^ 255) j := by
  have e : X / 2 ^ 255 / 65536 ^ j = X / 65536 ^ (15 + j) / 32768 := by
    rw [p255, Int.ediv_ediv_of_nonneg (by decide), Int.ediv_ediv_of_nonneg (Int.le_of_lt (pow_pos' (by decide) _)), Int.pow_add]
    congr 1
    rw [Int.mul_assoc, Int.mul_comm 32768, ← Int.mul_assoc]
  unfold dg
  rw [e, show 16 + j = (15 + j) + 1 by omega, div_succ (by decide)]
  omega
theorem lo_digit (X : Int) {i : Nat} (h : i < 15) : dg 65536 X i = dg 65536 (X % 2 ^ 255) i := by
  have := top_bit X i (by omega)
  rwa [upd_ne _ _ (by omega)] at this
theorem lo_digit15 (X : Int) : dg 65536 X 15 % 32768 = dg 65536 (X % 2 ^ 255) 15 := by
  have := top_bit X 15 (by omega)
  rwa [upd_at] at this
theorem hi_zero {H : Int} {i : Nat} : H % 65536 ^ (i + 1) = 0 ↔ H % 65536 ^ i = 0 ∧ dg 65536 H i = 0 := by
  rw [mod_succ (by decide)]
  have hp := pow_pos' (by decide : (0 : Int) < 65536) i
  have h1 := Int.emod_nonneg H (show (65536 : Int) ^ i ≠ 0 by omega)
  have h2 := dg_bound (by decide : (0 : Int) < 65536) H i
  constructor
  · intro h
    have h3 : 0 ≤ dg 65536 H i * 65536 ^ i := Int.mul_nonneg h2.1 (by omega)
    refine ⟨by omega, ?_⟩
    have h4 : dg 65536 H i * 65536 ^ i = 0 := by omega
    rcases Int.mul_eq_zero.1 h4 with h | h
    · exact h
    · omega
  · rintro ⟨h3, h4⟩
    rw [h3, h4]; simp
theorem hi_bound {X : Int} {n : Nat} (hX : 0 ≤ X ∧ X < 65536 ^ n) (hn : 17 ≤ n) : 0 ≤ X / 2 ^ 255 ∧ X / 2 ^ 255 < 65536 ^ (n - 15) := by
  refine ⟨Int.ediv_nonneg hX.1 (by decide), Int.ediv_lt_of_lt_mul (by decide) ?_⟩
  have h1 : (65536 : Int) ^ n = 65536 ^ (n - 15) * 65536 ^ 15 := by rw [← Int.pow_add]; congr 1; omega
  have h2 : (65536 : Int) ^ (n - 15) * 65536 ^ 15 ≤ 65536 ^ (n - 15) * 2 ^ 255 := Int.mul_le_mul_of_nonneg_left (by decide) (Int.le_of_lt (pow_pos' (by decide) _))
  omega
/-- what is above bit 255, nineteen times, comes below. -/
def fold19 (X : Int) : Int := X % 2 ^ 255 + 19 * (X / 2 ^ 255)
theorem fold19_mod (X : Int) : fold19 X % Pr = X % Pr := by
  unfold fold19
  have h := Int.emod_add_mul_ediv X (2 ^ 255)
  refine mod_eq_of (c := -(X / 2 ^ 255)) ?_
  have e : (2 : Int) ^ 255 = Pr + 19 := by decide
  rw [e] at h ⊢
  generalize X / (Pr + 19) = q at *
  generalize X % (Pr + 19) = r at *
  rw [Int.mul_neg]
  rw [Int.add_mul] at h
  omega
theorem fold19_less {X : Int} (h0 : 0 ≤ X) (h1 : X / 2 ^ 255 ≠ 0) : 0 ≤ fold19 X ∧ fold19 X < X := by
  unfold fold19
  have h := Int.emod_add_mul_ediv X (2 ^ 255)
  have h2 := Int.ediv_nonneg h0 (show (0 : Int) ≤ 2 ^ 255 by decide)
  have h3 := Int.emod_nonneg X (show (2 : Int) ^ 255 ≠ 0 by decide)
  omega
/-- the carry into digit k of L + 19 H. -/
def car19 (L H : Int) (k : Nat) : Int := (L + 19 * H) / 65536 ^ k - L / 65536 ^ k - 19 * (H / 65536 ^ k)
theorem car19_zero (L H : Int) : car19 L H 0 = 0 := by simp [car19]; omega
theorem car19_step (L H : Int) (k : Nat) : (dg 65536 L k + car19 L H k + 19 * dg 65536 H k) % 65536 = dg 65536 (L + 19 * H) k ∧ (dg 65536 L k + car19 L H k + 19 * dg 65536 H k) / 65536 = car19 L H (k + 1) := by
  unfold car19 dg
  rw [div_succ (by decide) L, div_succ (by decide) H, div_succ (by decide) (L + 19 * H)]
  omega
theorem car19_bound (L H : Int) (k : Nat) : 0 ≤ car19 L H k ∧ car19 L H k ≤ 19 := by
  unfold car19
  have hp := pow_pos' (by decide : (0 : Int) < 65536) k
  generalize (65536 : Int) ^ k = p at *
  have a := Int.emod_add_mul_ediv L p
  have b := Int.emod_add_mul_ediv H p
  have c := Int.emod_add_mul_ediv (L + 19 * H) p
  have a1 := Int.emod_nonneg L (show p ≠ 0 by omega)
  have a2 := Int.emod_lt_of_pos L hp
  have b1 := Int.emod_nonneg H (show p ≠ 0 by omega)
  have b2 := Int.emod_lt_of_pos H hp
  have c1 := Int.emod_nonneg (L + 19 * H) (show p ≠ 0 by omega)
  have c2 := Int.emod_lt_of_pos (L + 19 * H) hp
  have e : p * ((L + 19 * H) / p - L / p - 19 * (H / p)) = L % p + 19 * (H % p) - (L + 19 * H) % p := by
    rw [Int.mul_sub, Int.mul_sub, show p * (19 * (H / p)) = 19 * (p * (H / p)) by rw [← Int.mul_assoc, Int.mul_comm p, Int.mul_assoc]]
    omega
  generalize (L + 19 * H) / p - L / p - 19 * (H / p) = t at *
  have u : p * t < p * 20 := by omega
  have l : p * (-1) < p * t := by omega
  have := Int.lt_of_mul_lt_mul_left u (by omega)
  have := Int.lt_of_mul_lt_mul_left l (by omega)
  omega
theorem car19_top {L H : Int} {l : Nat} (hL : 0 ≤ L ∧ L < 65536 ^ l) (hH : 0 ≤ H ∧ H < 65536 ^ l) : car19 L H l = (L + 19 * H) / 65536 ^ l ∧ car19 L H l = dg 65536 (L + 19 * H) l ∧ L + 19 * H < 65536 ^ (l + 1) := by
  have hb := car19_bound L H l
  have e : car19 L H l = (L + 19 * H) / 65536 ^ l := by
    unfold car19
    rw [Int.ediv_eq_zero_of_lt hL.1 hL.2, Int.ediv_eq_zero_of_lt hH.1 hH.2]; omega
  refine ⟨e, ?_, ?_⟩
  · unfold dg; rw [← e]; omega
  · rw [Int.pow_succ]; omega
theorem low_modP {X : Int} (h : X / 2 ^ 255 = 0) (h0 : 0 ≤ X) : X % 2 ^ 255 = X ∧ sub1 X = X % Pr := by
  have h1 := Int.emod_add_mul_ediv X (2 ^ 255)
  rw [h] at h1
  have h2 := Int.emod_lt_of_pos X (show (0 : Int) < 2 ^ 255 by decide)
  have h3 : X % 2 ^ 255 = X := by omega
  refine ⟨h3, ?_⟩
  rw [h3] at h2
  have hp : (38 : Int) < Pr := by decide
  have he : (2 : Int) ^ 255 = Pr + 19 := by decide
  rw [he] at h2
  unfold sub1
  split
  · rw [show X = X - Pr + Pr * 1 by omega, Int.add_mul_emod_self_left, Int.emod_eq_of_lt (by omega) (by omega)]; omega
  · rw [Int.emod_eq_of_lt h0 (by omega)]

/-! the operations' limbs, as functions -/
def addF (f g : Nat → Int) : Nat → Int := crr (fun i => f i + g i)
def subF (f g : Nat → Int) : Nat → Int := crr (fun i => f i - g i)
def negF (f : Nat → Int) : Nat → Int := subF (fun _ => 0) f
/-- row i's first j products, added to t. -/
def rowF (f g : Nat → Int) (t : Nat → Int) (i : Nat) : Nat → Nat → Int
  | 0 => t
  | j + 1 => upd (rowF f g t i j) (i + j) (rowF f g t i j (i + j) + f i * g j)
def colF (f g : Nat → Int) : Nat → Nat → Int
  | 0 => fun _ => 0
  | i + 1 => rowF f g (colF f g i) i 16
def mulF (f g : Nat → Int) : Nat → Int := crr (crr (fun i => if i < 15 then colF f g 16 i + 38 * colF f g 16 (16 + i) else colF f g 16 i))
/-- the small number that is taken of n. -/
def smallN (n : Int) : Int := if 0 ≤ n ∧ n < 65536 then n else 0
def smallF (n : Int) : Nat → Int := if 0 ≤ n ∧ n < 65536 then upd (fun _ => 0) 0 n else fun _ => 0
theorem Fe.addF {f g : Nat → Int} {X Y : Int} (hf : Fe f X) (hg : Fe g Y) : Fe (addF f g) (X + Y) := hf.add hg
theorem Fe.subF {f g : Nat → Int} {X Y : Int} (hf : Fe f X) (hg : Fe g Y) : Fe (subF f g) (X - Y) := hf.sub hg
theorem fe_zero : Fe (fun _ => 0) 0 := ⟨⟨fun _ _ _ => by simp, by decide, by decide⟩, by rw [sm_zero']⟩
theorem Fe.negF {f : Nat → Int} {X : Int} (hf : Fe f X) : Fe (negF f) (-X) := by
  have := fe_zero.sub hf
  rwa [Int.zero_sub] at this
theorem rowF_cols {f g : Nat → Int} (hf : Near f) (hg : Near g) {t : Nat → Int} {i : Nat} (hi : i < 16) (h : FeCols t f g i 0) : ∀ j, j ≤ 16 → FeCols (rowF f g t i j) f g i j := by
  intro j
  induction j with
  | zero => intro _; exact h
  | succ j ih => intro hj; exact (ih (by omega)).step hi (by omega) hf hg
theorem colF_cols {f g : Nat → Int} (hf : Near f) (hg : Near g) : ∀ i, i ≤ 16 → FeCols (colF f g i) f g i 0 := by
  intro i
  induction i with
  | zero => intro _; exact FeCols.zero f g
  | succ i ih => intro hi; exact (rowF_cols hf hg (by omega) (ih (by omega)) 16 (Nat.le_refl _)).row
theorem Fe.mulF {f g : Nat → Int} {X Y : Int} (hf : Fe f X) (hg : Fe g Y) : Fe (mulF f g) (X * Y) := Fe.mul (colF_cols hf.1 hg.1 16 (Nat.le_refl _)) hf hg
theorem fe_small {n : Int} (h0 : 0 ≤ n) (h1 : n < 65536) : Fe (upd (fun _ => 0) 0 n) n := by
  refine ⟨⟨fun i _ h => by rw [upd_ne _ _ (by omega)]; simp, by rw [upd_at]; omega, by rw [upd_at]; omega⟩, ?_⟩
  rw [sm_upd', sm_zero']
  simp
theorem fe_smallF (n : Int) : Fe (smallF n) (smallN n) := by
  unfold smallF smallN
  by_cases h : 0 ≤ n ∧ n < 65536
  · rw [if_pos h, if_pos h]; exact fe_small h.1 h.2
  · rw [if_neg h, if_neg h]; exact fe_zero

theorem num_digits {l : Int} (h0 : 1 ≤ l) (h1 : l ≤ 255) : ∀ i, i < 32 → upd (upd (fun _ => 255) 0 (256 - l)) 31 127 i = dg 256 (2 ^ 255 - l) i := by
  have hb : ∀ i, i < 32 → 0 ≤ upd (upd (fun _ => 255) 0 (256 - l)) 31 127 i ∧ upd (upd (fun _ => 255) 0 (256 - l)) 31 127 i < 256 := by
    intro i _
    unfold upd
    split
    · omega
    · split
      · omega
      · show (0 : Int) ≤ 255 ∧ (255 : Int) < 256; decide
  have hs : sm 256 (upd (upd (fun _ => 255) 0 (256 - l)) 31 127) 32 = 2 ^ 255 - l := by
    rw [sm_upd', sm_upd', if_pos (by decide), if_pos (by decide), upd_ne _ _ (by decide)]
    rw [show sm 256 (fun _ => 255) 32 = 2 ^ 256 - 1 by decide]
    rw [show (256 : Int) ^ 31 = 2 ^ 248 by decide]
    omega
  intro i hi
  rw [← hs, dg_sm (by decide) hb i hi]
theorem half_digit (X : Int) (i : Nat) : dg 256 (X / 2) i = dg 256 X i / 2 + dg 256 X (i + 1) % 2 * 128 := by
  unfold dg
  rw [div_succ (by decide) X i, Int.ediv_ediv_of_nonneg (by decide), Int.mul_comm 2, ← Int.ediv_ediv_of_nonneg (Int.le_of_lt (pow_pos' (by decide) _))]
  omega
/-! powers from the lowest bit up: out * base ^ (what is left) stays the power. -/
/-- after i bits of N. -/
def pwOut (X N : Int) (i : Nat) : Int := X ^ (N % 2 ^ i).toNat
theorem pwOut_zero (X N : Int) : pwOut X N 0 = 1 := by unfold pwOut; rw [Int.pow_zero, Int.emod_one, show (0 : Int).toNat = 0 from rfl, Int.pow_zero]
theorem mod2_succ (N : Int) (i : Nat) : N % 2 ^ (i + 1) = N % 2 ^ i + N / 2 ^ i % 2 * 2 ^ i := mod_succ (B := 2) (by decide) N i
theorem pwOut_step (X N : Int) (i : Nat) : pwOut X N (i + 1) = if N / 2 ^ i % 2 = 1 then pwOut X N i * X ^ (2 ^ i) else pwOut X N i := by
  unfold pwOut
  have hp := pow_pos' (by decide : (0 : Int) < 2) i
  have h0 := Int.emod_nonneg N (show (2 : Int) ^ i ≠ 0 by omega)
  rw [mod2_succ]
  by_cases e : N / 2 ^ i % 2 = 1
  · rw [if_pos e, e, Int.one_mul, ← Int.pow_add]
    congr 1
    have : ((2 : Int) ^ i) = ((2 ^ i : Nat) : Int) := by simp
    omega
  · rw [if_neg e, show N / 2 ^ i % 2 = 0 by omega, Int.zero_mul, Int.add_zero]
theorem sqr_step (X : Int) (i : Nat) : X ^ (2 ^ (i + 1)) = X ^ (2 ^ i) * X ^ (2 ^ i) := by rw [← Int.pow_add]; congr 1; rw [Nat.pow_succ]; omega
theorem pwOut_full {X N : Int} (h0 : 0 ≤ N) (h1 : N < 2 ^ 256) : pwOut X N 256 = X ^ N.toNat := by unfold pwOut; rw [Int.emod_eq_of_lt h0 h1]
/-- what is left of a byte: its bit k is the number's. -/
theorem byte_bit (N : Int) (i k : Nat) (hk : k < 8) : dg 256 N i / 2 ^ k % 2 = N / 2 ^ (8 * i + k) % 2 := by
  rw [bit_of N (8 * i + k), show (8 * i + k) / 8 = i by omega, show (8 * i + k) % 8 = k by omega]
/-- the limbs of a power: the exponent's first k bits from the top of 256. -/
def pwF (f : Nat → Int) (N : Int) : Nat → Nat → Int
  | 0 => smallF 1
  | k + 1 => if N / 2 ^ (255 - k) % 2 = 1 then mulF (mulF (pwF f N k) (pwF f N k)) f else mulF (pwF f N k) (pwF f N k)
theorem pow_even (X : Int) {a m : Nat} (h : a = 2 * m) : X ^ a = X ^ m * X ^ m := by rw [h, ← Int.pow_add]; congr 1; omega
theorem Fe.pwF {f : Nat → Int} {X N : Int} (hf : Fe f X) (h0 : 0 ≤ N) (h1 : N < 2 ^ 256) : ∀ k, k ≤ 256 → Fe (pwF f N k) (X ^ (N / 2 ^ (256 - k)).toNat) := by
  intro k
  induction k with
  | zero =>
    intro _
    rw [Nat.sub_zero, Int.ediv_eq_zero_of_lt h0 h1, show (0 : Int).toNat = 0 from rfl, Int.pow_zero]
    have h := fe_smallF 1
    rwa [show smallN 1 = 1 by decide] at h
  | succ k ih =>
    intro hk
    have h := ih (by omega)
    have hh := half N (255 - k)
    rw [show 255 - k + 1 = 256 - k by omega] at hh
    have hm : 0 ≤ N / 2 ^ (256 - k) := Int.ediv_nonneg h0 (Int.le_of_lt (pow_pos' (by decide) _))
    rw [show 256 - (k + 1) = 255 - k by omega]
    unfold Go.Bas.pwF
    by_cases e : N / 2 ^ (255 - k) % 2 = 1
    · rw [if_pos e]
      rw [e] at hh
      rw [show (N / 2 ^ (255 - k)).toNat = 2 * (N / 2 ^ (256 - k)).toNat + 1 by omega, Int.pow_succ, pow_even X rfl]
      exact (h.mulF h).mulF hf
    · rw [if_neg e]
      rw [pow_even X (show (N / 2 ^ (255 - k)).toNat = 2 * (N / 2 ^ (256 - k)).toNat by omega)]
      exact h.mulF h
/-- the limbs of a power. -/
def powF (f : Nat → Int) (N : Int) : Nat → Int := Go.Bas.pwF f N 256
theorem Fe.powF {f : Nat → Int} {X N : Int} (hf : Fe f X) (h0 : 0 ≤ N) (h1 : N < 2 ^ 256) : Fe (powF f N) (X ^ N.toNat) := by
  have h := hf.pwF h0 h1 256 (Nat.le_refl _)
  rwa [Nat.sub_self, Int.pow_zero, Int.ediv_one] at h
end Go.Bas
