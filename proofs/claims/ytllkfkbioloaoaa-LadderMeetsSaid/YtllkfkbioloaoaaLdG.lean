/-
  The ladder in the group of a curve: it comes to multiples of a point, told by one part. No program in sight.
-/
import Derived.Test.YtllkfkbioloaoaaEdG
set_option linter.unusedVariables false
set_option linter.unusedSimpArgs false
namespace Go.Bas
/-! the number y of a point tells u: X by Z -/
/-- X by Z is (1 + y) by s (1 - y). -/
def Rel (s y X Z : Fp) : Prop := ∃ l : Fp, l ≠ 0 ∧ X = l * (1 + y) ∧ Z = s * l * (1 - y)
/-- what belongs together: the sign s, the curve's number d, the ladder's number f. -/
structure Kind where
  E : NS
  s : Fp
  f : Fp
  hs : s * s = 1
  /-- a24 is 121665. -/
  h1 : s = 1 → E.d * (1 + f) = -f
  h2 : s = -1 → E.d * f = -(1 + f)
  hk : s = 1 ∨ s = -1
  hf0 : f ≠ 0
  hf1 : 1 + f ≠ 0
section
variable {K : Kind}
theorem ed_one_dy (p : Ed K.E) : 1 + K.E.d * p.y ^ 2 ≠ 0 := by
  intro h
  have ho := p.on
  have hy : p.y ^ 2 = 1 := by grind
  have hd : K.E.d = -1 := by grind
  exact K.E.no iE (by rw [iE_sq, hd])
theorem ed_x2 (p : Ed K.E) : p.x ^ 2 * (1 + K.E.d * p.y ^ 2) = p.y ^ 2 - 1 := by
  have ho := p.on
  grind
/-- the double's number. -/
theorem dbl_y {x y d y' : Fp} (ho : y ^ 2 - x ^ 2 = 1 + d * x ^ 2 * y ^ 2) (h : y' * (1 - d * (x * x * (y * y))) = y * y + x * x) :
    y' * (1 + 2 * d * y ^ 2 - d * y ^ 4) = d * y ^ 4 + 2 * y ^ 2 - 1 := by
  have hx : x ^ 2 * (1 + d * y ^ 2) = y ^ 2 - 1 := by grind
  have e1 : (1 - d * (x * x * (y * y))) * (1 + d * y ^ 2) = 1 + 2 * d * y ^ 2 - d * y ^ 4 := by grind
  have e2 : (y * y + x * x) * (1 + d * y ^ 2) = d * y ^ 4 + 2 * y ^ 2 - 1 := by grind
  rw [← e1, ← e2, ← h]
  grind
theorem dbl_den (p : Ed K.E) : 1 + 2 * K.E.d * p.y ^ 2 - K.E.d * p.y ^ 4 ≠ 0 := by
  have h1 := p.minus_ne p
  have h2 := ed_one_dy p
  have hx := ed_x2 p
  have e1 : (1 - K.E.d * (p.x * p.x * (p.y * p.y))) * (1 + K.E.d * p.y ^ 2) = 1 + 2 * K.E.d * p.y ^ 2 - K.E.d * p.y ^ 4 := by grind
  rw [← e1]
  exact fp_mul_ne h1 h2
end
/-- a double, with the number f in place of 121665. -/
def fdX (x z : Fp) : Fp := (x + z) * (x + z) * ((x - z) * (x - z))
def fdZ (f x z : Fp) : Fp := ((x + z) * (x + z) - (x - z) * (x - z)) * ((x + z) * (x + z) + f * ((x + z) * (x + z) - (x - z) * (x - z)))
def fsX (a b c d : Fp) : Fp := ((c - d) * (a + b) + (c + d) * (a - b)) * ((c - d) * (a + b) + (c + d) * (a - b))
def fsZ (u a b c d : Fp) : Fp := u * (((c - d) * (a + b) - (c + d) * (a - b)) * ((c - d) * (a + b) - (c + d) * (a - b)))
theorem rel_dbl1 {l y d f y' den : Fp} (hf : d * (1 + f) = -f) (hy : y' * den = d * y ^ 4 + 2 * y ^ 2 - 1) (hden : den = 1 + 2 * d * y ^ 2 - d * y ^ 4) :
    fdX (l * (1 + y)) (1 * l * (1 - y)) = (8 * l ^ 4 * den * (1 + f)) * (1 + y') ∧ fdZ f (l * (1 + y)) (1 * l * (1 - y)) = 1 * (8 * l ^ 4 * den * (1 + f)) * (1 - y') := by
  unfold fdX fdZ
  constructor <;> grind
theorem rel_dbl2 {l y d f y' den : Fp} (hf : d * f = -(1 + f)) (hy : y' * den = d * y ^ 4 + 2 * y ^ 2 - 1) (hden : den = 1 + 2 * d * y ^ 2 - d * y ^ 4) :
    fdX (l * (1 + y)) (-1 * l * (1 - y)) = (-(8 * l ^ 4 * den * f)) * (1 + y') ∧ fdZ f (l * (1 + y)) (-1 * l * (1 - y)) = -1 * (-(8 * l ^ 4 * den * f)) * (1 - y') := by
  unfold fdX fdZ
  constructor <;> grind
theorem neg_y {b d x1 y1 x2 y2 : Fp} (h : b * (1 - d * (x2 * -x1 * (y2 * y1))) = y2 * y1 + x2 * -x1) : b * (1 + d * (x1 * x2 * (y1 * y2))) = y1 * y2 - x1 * x2 := by grind
theorem unit_y {b d x1 x2 : Fp} (o1 : (0 : Fp) ^ 2 - x1 ^ 2 = 1 + d * x1 ^ 2 * 0 ^ 2) (o2 : (0 : Fp) ^ 2 - x2 ^ 2 = 1 + d * x2 ^ 2 * 0 ^ 2) (e0 : b * (1 + d * (x1 * x2 * (0 * 0))) = 0 * 0 - x1 * x2) : (1 - b) * (1 + b) = 0 := by grind
theorem both_zero {a b : Fp} (h : a + b = 0) (h' : a - b = 0) : a = 0 ∧ b = 0 := by
  have h2 : 2 * a = 0 := by grind
  have := (fp_mul_zero h2).resolve_left fp_two_ne
  grind
theorem neg_ne {a : Fp} (h : a ≠ 0) : -a ≠ 0 := by intro e; exact h (by grind)
theorem base_rel {s u y : Fp} (h : s * u * (1 - y) = 1 + y) : s * u * (1 - y) = 1 * (1 + y) := by grind
theorem num_base {s y i : Fp} (hs : s * s = 1) (hi : (1 - y) * i = 1) : s * (s * (1 + y) * i) * (1 - y) = 1 + y := by grind
theorem num_quot {s l y i j : Fp} (hs : s * s = 1) (hi : s * l * (1 - y) * i = 1) (hj : (1 - y) * j = 1) : l * (1 + y) * i = s * (1 + y) * j := by
  have h1 : s * l * i = j := by grind
  grind
theorem zero_fac {s y i : Fp} (hs : s * s = 1) (hi : (1 - y) * i = 1) (h : s * (1 + y) * i = 0) : (1 + y) * (1 - y) = 0 := by
  have : s * (s * (1 + y) * i * (1 - y)) * (1 - y) = 0 := by rw [h]; grind
  grind
theorem x_zero {d x y : Fp} (h : (1 + y) * (1 - y) = 0) (hx : x ^ 2 * (1 + d * y ^ 2) = y ^ 2 - 1) (hne : 1 + d * y ^ 2 ≠ 0) : x = 0 := by
  have h2 : x ^ 2 * (1 + d * y ^ 2) = 0 := by grind
  rcases fp_mul_zero h2 with h3 | h3
  · rcases fp_mul_zero (show x * x = 0 by grind) with h | h <;> exact h
  · exact absurd h3 hne
theorem dbl_zero {d y a b : Fp} (h : (1 + y) * (1 - y) = 0) (h1 : a * (1 + d * (0 * 0 * (y * y))) = 0 * y + 0 * y) (h2 : b * (1 - d * (0 * 0 * (y * y))) = y * y + 0 * 0) : a = 0 ∧ b = 1 := by
  constructor <;> grind
theorem diff_poly {x1 y1 x2 y2 d : Fp} (h1 : y1 ^ 2 - x1 ^ 2 = 1 + d * x1 ^ 2 * y1 ^ 2) (h2 : y2 ^ 2 - x2 ^ 2 = 1 + d * x2 ^ 2 * y2 ^ 2) :
    ((1 - d * (x1 * x2 * (y1 * y2))) + (y1 * y2 + x1 * x2)) * ((1 + d * (x1 * x2 * (y1 * y2))) + (y1 * y2 - x1 * x2)) * (y1 - y2) ^ 2 = ((1 - d * (x1 * x2 * (y1 * y2))) - (y1 * y2 + x1 * x2)) * ((1 + d * (x1 * x2 * (y1 * y2))) - (y1 * y2 - x1 * x2)) * (y1 + y2) ^ 2 := by
  grind
theorem diff_frac {A B C D a b g h : Fp} (ha : a * A = C) (hb : b * B = D) (hA : A ≠ 0) (hB : B ≠ 0) (hp : (A + C) * (B + D) * g = (A - C) * (B - D) * h) : (1 + a) * (1 + b) * g = (1 - a) * (1 - b) * h := by
  refine fp_cancel (fp_mul_ne hA hB) ?_
  subst ha; subst hb
  have e1 : (1 + a) * (1 + b) * g * (A * B) = (A + a * A) * (B + b * B) * g := by grind
  have e2 : (1 - a) * (1 - b) * h * (A * B) = (A - a * A) * (B - b * B) * h := by grind
  rw [e1, e2, hp]
theorem rel_of {s y X Z : Fp} (hs : s * s = 1) (hne : X ≠ 0 ∨ Z ≠ 0) (h : s * X * (1 - y) = Z * (1 + y)) : Rel s y X Z := by
  have hs0 : s ≠ 0 := by intro e; exact fp_one_ne (by grind)
  by_cases hy : 1 + y = 0
  · have hX : X = 0 := by
      have h2 : s * X * 2 = 0 := by grind
      rcases fp_mul_zero h2 with h3 | h3
      · rcases fp_mul_zero h3 with h4 | h4
        · exact absurd h4 hs0
        · exact h4
      · exact absurd h3 fp_two_ne
    have hZ : Z ≠ 0 := hne.resolve_left (fun e => e hX)
    obtain ⟨w, hw⟩ := fp_inv fp_two_ne
    have hw0 : w ≠ 0 := by intro e; exact fp_one_ne (by grind)
    exact ⟨s * w * Z, fp_mul_ne (fp_mul_ne hs0 hw0) hZ, by grind, by grind⟩
  · obtain ⟨w, hw⟩ := fp_inv hy
    have hw0 : w ≠ 0 := by intro e; exact fp_one_ne (by grind)
    have hX : X ≠ 0 := by
      intro e
      have h2 : Z * (1 + y) = 0 := by grind
      rcases fp_mul_zero h2 with h3 | h3
      · exact hne.elim (fun h => h e) (fun h => h h3)
      · exact hy h3
    exact ⟨X * w, fp_mul_ne hX hw0, by grind, by grind⟩
theorem rel_sum {l m s u y1 y2 y0 yp : Fp} (hs : s = 1 ∨ s = -1) (hu : s * u * (1 - y0) = 1 + y0) (hl : l ≠ 0) (hm : m ≠ 0) (hy : (1 + yp) * (1 + y0) * (y1 - y2) ^ 2 = (1 - yp) * (1 - y0) * (y1 + y2) ^ 2) (h1 : 1 - y0 ≠ 0) :
    fsX (l * (1 + y1)) (s * l * (1 - y1)) (m * (1 + y2)) (s * m * (1 - y2)) = 16 * (l * m) ^ 2 * (y1 + y2) ^ 2 ∧ fsZ u (l * (1 + y1)) (s * l * (1 - y1)) (m * (1 + y2)) (s * m * (1 - y2)) = u * (16 * (l * m) ^ 2 * (y1 - y2) ^ 2) ∧
      s * (16 * (l * m) ^ 2 * (y1 + y2) ^ 2) * (1 - yp) = u * (16 * (l * m) ^ 2 * (y1 - y2) ^ 2) * (1 + yp) := by
  unfold fsX fsZ
  have key : s * (y1 + y2) ^ 2 * (1 - yp) = u * (y1 - y2) ^ 2 * (1 + yp) := by
    refine fp_cancel h1 ?_
    rcases hs with rfl | rfl
    · grind
    · grind
  refine ⟨?_, ?_, ?_⟩
  · rcases hs with rfl | rfl <;> grind
  · rcases hs with rfl | rfl <;> grind
  · grind
end Go.Bas
