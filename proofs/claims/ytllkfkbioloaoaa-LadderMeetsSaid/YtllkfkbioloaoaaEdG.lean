/-
  The group of the curve of layer 7, over the field as a finite type. No program in sight.
-/
import Derived.Test.YtllkfkbioloaoaaEdF
set_option linter.unusedVariables false
set_option linter.unusedSimpArgs false
namespace Go.Bas
/-- a root of -1. -/
def iE : Fp := toF im1
theorem iE_sq : iE * iE = -1 := by
  unfold iE
  rw [← toF_mul, ← toF_one, ← toF_neg]
  exact toF_eq.2 (show im1 * im1 % Pr = -1 % Pr by rw [im1_sq]; decide)
/-- a number that is no square. -/
structure NS where
  d : Fp
  no : ∀ r : Fp, r * r ≠ d
/-- points (x, y) of the curve of such a number. -/
structure Ed (E : NS) where
  x : Fp
  y : Fp
  on : y ^ 2 - x ^ 2 = 1 + E.d * x ^ 2 * y ^ 2
section
variable {E : NS}
theorem Ed.ext {p q : Ed E} (h1 : p.x = q.x) (h2 : p.y = q.y) : p = q := by cases p; cases q; simp_all
theorem den_ne {x1 y1 x2 y2 d i e : Fp} (hd : ∀ r : Fp, r * r ≠ d) (hi : i * i = -1) (h1 : y1 ^ 2 - x1 ^ 2 = 1 + d * x1 ^ 2 * y1 ^ 2) (h2 : y2 ^ 2 - x2 ^ 2 = 1 + d * x2 ^ 2 * y2 ^ 2) (he : e * e = 1) : d * (x1 * x2 * (y1 * y2)) ≠ e := by
  intro hm
  have he0 : e ≠ 0 := by intro h; exact fp_one_ne (by grind)
  have hx1 : x1 ≠ 0 := by intro h; exact he0 (by grind)
  have hy1 : y1 ≠ 0 := by intro h; exact he0 (by grind)
  have hy2 : y2 ≠ 0 := by intro h; exact he0 (by grind)
  have key : ∀ s t : Fp, t * t = d * (s * s) → s ≠ 0 → False := by
    intro s t h hs
    obtain ⟨w, hw⟩ := fp_inv hs
    exact hd (t * w) (by grind)
  have a1 : (i * x1 + e * y1) * (i * x1 + e * y1) = d * ((x1 * y1 * (i * x2 + y2)) * (x1 * y1 * (i * x2 + y2))) := by grind
  have a2 : (i * x1 - e * y1) * (i * x1 - e * y1) = d * ((x1 * y1 * (i * x2 - y2)) * (x1 * y1 * (i * x2 - y2))) := by grind
  by_cases hs : i * x2 + y2 = 0
  · refine key _ _ a2 (fp_mul_ne (fp_mul_ne hx1 hy1) ?_)
    intro ht
    have h2y : 2 * y2 = 0 := by grind
    rcases fp_mul_zero h2y with h | h
    · exact fp_two_ne h
    · exact hy2 h
  · exact key _ _ a1 (fp_mul_ne (fp_mul_ne hx1 hy1) hs)
theorem Ed.plus_ne (p q : Ed E) : 1 + E.d * (p.x * q.x * (p.y * q.y)) ≠ 0 := by
  intro h
  exact den_ne E.no iE_sq p.on q.on (e := -1) (by grind) (by grind)
theorem Ed.minus_ne (p q : Ed E) : 1 - E.d * (p.x * q.x * (p.y * q.y)) ≠ 0 := by
  intro h
  exact den_ne E.no iE_sq p.on q.on (e := 1) (by grind) (by grind)
theorem ed_closed {x1 y1 x2 y2 d : Fp} (h1 : y1 ^ 2 - x1 ^ 2 = 1 + d * x1 ^ 2 * y1 ^ 2) (h2 : y2 ^ 2 - x2 ^ 2 = 1 + d * x2 ^ 2 * y2 ^ 2) :
    ((y1 * y2 + x1 * x2) * (1 + d * (x1 * x2 * (y1 * y2)))) ^ 2 - ((x1 * y2 + x2 * y1) * (1 - d * (x1 * x2 * (y1 * y2)))) ^ 2 = ((1 + d * (x1 * x2 * (y1 * y2))) * (1 - d * (x1 * x2 * (y1 * y2)))) ^ 2 + d * ((x1 * y2 + x2 * y1) * (y1 * y2 + x1 * x2)) ^ 2 := by
  grind
theorem ed_frac {A B C D u v d : Fp} (hv : B * v = 1) (hu : D * u = 1) (h : (C * B) ^ 2 - (A * D) ^ 2 = (B * D) ^ 2 + d * (A * C) ^ 2) : (C * u) ^ 2 - (A * v) ^ 2 = 1 + d * (A * v) ^ 2 * (C * u) ^ 2 := by
  have h' : ((C * B) ^ 2 - (A * D) ^ 2) * (u * v) ^ 2 = ((B * D) ^ 2 + d * (A * C) ^ 2) * (u * v) ^ 2 := by rw [h]
  grind
/-- the sum. -/
noncomputable def Ed.add (p q : Ed E) : Ed E where
  x := (p.x * q.y + q.x * p.y) * inv (1 + E.d * (p.x * q.x * (p.y * q.y)))
  y := (p.y * q.y + p.x * q.x) * inv (1 - E.d * (p.x * q.x * (p.y * q.y)))
  on := ed_frac (inv_mul (p.plus_ne q)) (inv_mul (p.minus_ne q)) (ed_closed p.on q.on)
theorem Ed.add_x (p q : Ed E) : (p.add q).x * (1 + E.d * (p.x * q.x * (p.y * q.y))) = p.x * q.y + q.x * p.y := by
  have h := inv_mul (p.plus_ne q)
  show (p.x * q.y + q.x * p.y) * inv (1 + E.d * (p.x * q.x * (p.y * q.y))) * (1 + E.d * (p.x * q.x * (p.y * q.y))) = _
  grind
theorem Ed.add_y (p q : Ed E) : (p.add q).y * (1 - E.d * (p.x * q.x * (p.y * q.y))) = p.y * q.y + p.x * q.x := by
  have h := inv_mul (p.minus_ne q)
  show (p.y * q.y + p.x * q.x) * inv (1 - E.d * (p.x * q.x * (p.y * q.y))) * (1 - E.d * (p.x * q.x * (p.y * q.y))) = _
  grind
theorem Ed.add_comm (p q : Ed E) : p.add q = q.add p := by
  apply Ed.ext
  · refine fp_cancel (p.plus_ne q) ?_
    rw [Ed.add_x]
    have h := q.add_x p
    rw [show q.x * p.x * (q.y * p.y) = p.x * q.x * (p.y * q.y) by grind] at h
    rw [h]; grind
  · refine fp_cancel (p.minus_ne q) ?_
    rw [Ed.add_y]
    have h := q.add_y p
    rw [show q.x * p.x * (q.y * p.y) = p.x * q.x * (p.y * q.y) by grind] at h
    rw [h]; grind
/-- nought. -/
def Ed.zero : Ed E := ⟨0, 1, by grind⟩
theorem Ed.add_zero (p : Ed E) : p.add .zero = p := by
  have h1 : (p.add .zero).x * (1 + E.d * (p.x * 0 * (p.y * 1))) = p.x * 1 + 0 * p.y := p.add_x .zero
  have h2 : (p.add .zero).y * (1 - E.d * (p.x * 0 * (p.y * 1))) = p.y * 1 + p.x * 0 := p.add_y .zero
  apply Ed.ext
  · generalize (p.add .zero).x = s at *
    grind
  · generalize (p.add .zero).y = s at *
    grind
theorem Ed.zero_add (p : Ed E) : (Ed.zero : Ed E).add p = p := by rw [Ed.add_comm, Ed.add_zero]
/-- the point on the other side. -/
def Ed.neg (p : Ed E) : Ed E := ⟨-p.x, p.y, by have := p.on; grind⟩
theorem Ed.add_neg (p : Ed E) : p.add p.neg = .zero := by
  have h1 := p.add_x p.neg
  have h2 := p.add_y p.neg
  have ho := p.on
  have n1 := p.plus_ne p.neg
  have n2 := p.minus_ne p.neg
  simp only [Ed.neg] at h1 h2 n1 n2
  apply Ed.ext
  · refine fp_cancel n1 ?_
    have e1 : (p.add p.neg).x * (1 + E.d * (p.x * -p.x * (p.y * p.y))) = 0 := by rw [show (p.add p.neg).x = (p.add ⟨-p.x, p.y, p.neg.on⟩).x from rfl, h1]; grind
    rw [e1]; show (0 : Fp) = 0 * _; grind
  · refine fp_cancel n2 ?_
    have e2 : (p.add p.neg).y * (1 - E.d * (p.x * -p.x * (p.y * p.y))) = p.y * p.y + p.x * -p.x := by rw [show (p.add p.neg).y = (p.add ⟨-p.x, p.y, p.neg.on⟩).y from rfl, h2]
    rw [e2]; show _ = (1 : Fp) * _; grind
theorem assoc_poly_x {x1 y1 x2 y2 x3 y3 d : Fp} (h1 : y1 ^ 2 - x1 ^ 2 = 1 + d * x1 ^ 2 * y1 ^ 2) (h2 : y2 ^ 2 - x2 ^ 2 = 1 + d * x2 ^ 2 * y2 ^ 2) (h3 : y3 ^ 2 - x3 ^ 2 = 1 + d * x3 ^ 2 * y3 ^ 2) :
    ((x1*y2+x2*y1)*(1-d*(x1*x2*(y1*y2)))*y3 + (1+d*(x1*x2*(y1*y2)))*(y1*y2+x1*x2)*x3) * ((1+d*(x2*x3*(y2*y3)))*(1-d*(x2*x3*(y2*y3))) + d*((x2*y3+x3*y2)*(y2*y3+x2*x3)*(x1*y1)))
    = ((x2*y3+x3*y2)*(1-d*(x2*x3*(y2*y3)))*y1 + (1+d*(x2*x3*(y2*y3)))*(y2*y3+x2*x3)*x1) * ((1+d*(x1*x2*(y1*y2)))*(1-d*(x1*x2*(y1*y2))) + d*((x1*y2+x2*y1)*(y1*y2+x1*x2)*(x3*y3))) := by
  grind
theorem assoc_poly_y {x1 y1 x2 y2 x3 y3 d : Fp} (h1 : y1 ^ 2 - x1 ^ 2 = 1 + d * x1 ^ 2 * y1 ^ 2) (h2 : y2 ^ 2 - x2 ^ 2 = 1 + d * x2 ^ 2 * y2 ^ 2) (h3 : y3 ^ 2 - x3 ^ 2 = 1 + d * x3 ^ 2 * y3 ^ 2) :
    ((1+d*(x1*x2*(y1*y2)))*(y1*y2+x1*x2)*y3 + (x1*y2+x2*y1)*(1-d*(x1*x2*(y1*y2)))*x3) * ((1+d*(x2*x3*(y2*y3)))*(1-d*(x2*x3*(y2*y3))) - d*((x2*y3+x3*y2)*(y2*y3+x2*x3)*(x1*y1)))
    = ((1+d*(x2*x3*(y2*y3)))*(y2*y3+x2*x3)*y1 + (x2*y3+x3*y2)*(1-d*(x2*x3*(y2*y3)))*x1) * ((1+d*(x1*x2*(y1*y2)))*(1-d*(x1*x2*(y1*y2))) - d*((x1*y2+x2*y1)*(y1*y2+x1*x2)*(x3*y3))) := by
  grind
/-- a sum's parts as one fraction: from the first sum's parts. -/
theorem frac_x {a b A B C D x3 y3 d s : Fp} (ha : a * B = A) (hb : b * D = C) (hs : s * (1 + d * (a * x3 * (b * y3))) = a * y3 + x3 * b) : s * (B * D + d * (A * C * (x3 * y3))) = A * D * y3 + B * C * x3 := by
  subst ha; subst hb
  have : s * (B * D + d * (a * B * (b * D) * (x3 * y3))) = s * (1 + d * (a * x3 * (b * y3))) * (B * D) := by grind
  rw [this, hs]; grind
theorem frac_y {a b A B C D x3 y3 d s : Fp} (ha : a * B = A) (hb : b * D = C) (hs : s * (1 - d * (a * x3 * (b * y3))) = b * y3 + a * x3) : s * (B * D - d * (A * C * (x3 * y3))) = B * C * y3 + A * D * x3 := by
  subst ha; subst hb
  have : s * (B * D - d * (a * B * (b * D) * (x3 * y3))) = s * (1 - d * (a * x3 * (b * y3))) * (B * D) := by grind
  rw [this, hs]; grind
theorem frac_ne_x {a b A B C D x3 y3 d : Fp} (ha : a * B = A) (hb : b * D = C) (hB : B ≠ 0) (hD : D ≠ 0) (h : 1 + d * (a * x3 * (b * y3)) ≠ 0) : B * D + d * (A * C * (x3 * y3)) ≠ 0 := by
  subst ha; subst hb
  have : B * D + d * (a * B * (b * D) * (x3 * y3)) = B * D * (1 + d * (a * x3 * (b * y3))) := by grind
  rw [this]; exact fp_mul_ne (fp_mul_ne hB hD) h
theorem frac_ne_y {a b A B C D x3 y3 d : Fp} (ha : a * B = A) (hb : b * D = C) (hB : B ≠ 0) (hD : D ≠ 0) (h : 1 - d * (a * x3 * (b * y3)) ≠ 0) : B * D - d * (A * C * (x3 * y3)) ≠ 0 := by
  subst ha; subst hb
  have : B * D - d * (a * B * (b * D) * (x3 * y3)) = B * D * (1 - d * (a * x3 * (b * y3))) := by grind
  rw [this]; exact fp_mul_ne (fp_mul_ne hB hD) h
theorem cross_eq {s t n1 d1 n2 d2 : Fp} (hd1 : d1 ≠ 0) (hd2 : d2 ≠ 0) (h1 : s * d1 = n1) (h2 : t * d2 = n2) (h : n1 * d2 = n2 * d1) : s = t := by
  refine fp_cancel (fp_mul_ne hd1 hd2) ?_
  grind
theorem Ed.add_assoc (p q r : Ed E) : (p.add q).add r = p.add (q.add r) := by
  rw [Ed.add_comm p (q.add r)]
  apply Ed.ext
  · exact cross_eq (frac_ne_x (p.add_x q) (p.add_y q) (p.plus_ne q) (p.minus_ne q) ((p.add q).plus_ne r)) (frac_ne_x (q.add_x r) (q.add_y r) (q.plus_ne r) (q.minus_ne r) ((q.add r).plus_ne p))
      (frac_x (p.add_x q) (p.add_y q) ((p.add q).add_x r)) (frac_x (q.add_x r) (q.add_y r) ((q.add r).add_x p)) (assoc_poly_x p.on q.on r.on)
  · exact cross_eq (frac_ne_y (p.add_x q) (p.add_y q) (p.plus_ne q) (p.minus_ne q) ((p.add q).minus_ne r)) (frac_ne_y (q.add_x r) (q.add_y r) (q.plus_ne r) (q.minus_ne r) ((q.add r).minus_ne p))
      (frac_y (p.add_x q) (p.add_y q) ((p.add q).add_y r)) (frac_y (q.add_x r) (q.add_y r) ((q.add r).add_y p)) (assoc_poly_y p.on q.on r.on)
/-- so many times a point. -/
noncomputable def Ed.mul (p : Ed E) : Nat → Ed E
  | 0 => .zero
  | n + 1 => (p.mul n).add p
theorem Ed.mul_one (p : Ed E) : p.mul 1 = p := p.zero_add
theorem Ed.mul_add (p : Ed E) (m : Nat) : ∀ n, p.mul (m + n) = (p.mul m).add (p.mul n)
  | 0 => (Ed.add_zero _).symm
  | n + 1 => by rw [← Nat.add_assoc, Ed.mul, Ed.mul_add p m n, Ed.add_assoc]; rfl
theorem Ed.mul_mul (p : Ed E) (m : Nat) : ∀ n, p.mul (m * n) = (p.mul m).mul n
  | 0 => rfl
  | n + 1 => by rw [Nat.mul_succ, Ed.mul_add, Ed.mul_mul p m n]; rfl
end
/-- the number d. -/
noncomputable def dE : Fp := -(toF 121665 * inv (toF 121666))
theorem quot_mul {a b c : Fp} (h : b * c = 1) : -(a * c) * b = -a := by grind
theorem dE_eq : dE * toF 121666 = - toF 121665 := quot_mul (inv_mul (toF_nz.2 (by decide)))
theorem sq_121 : powmod PN 256 (PN - 121665 * 121666) ((PN - 1) / 2) 1 % PN ≠ 1 := by decide +kernel
theorem nat_121 : Cg (-(121665 * 121666)) ((PN - 121665 * 121666 : Nat) : Int) := by
  have h : ((PN - 121665 * 121666 : Nat) : Int) = (PN : Int) - 121665 * 121666 := by
    have : 121665 * 121666 ≤ PN := by decide
    omega
  unfold Cg
  rw [h, ← Pr_PN]
  exact mod_eq_of (c := -1) (by omega)
theorem no_sq_121 (R : Int) : ¬ Cg (R * R) (-(121665 * 121666)) := by
  intro h
  have h1 := sq_isSq (R := R) (X := -(121665 * 121666)) h
  unfold isSq at h1
  simp only [Bool.or_eq_true, decide_eq_true_eq] at h1
  rcases h1 with h1 | h1
  · exact absurd h1 (by decide +kernel)
  · have h2 : sqN (-(121665 * 121666)) % Pr = (((PN - 121665 * 121666 : Nat) : Int) ^ ((PN - 1) / 2)) % Pr := nat_121.pow _
    rw [h2, int_pow_nat] at h1
    have h3 := powmod_eq PN 256 (PN - 121665 * 121666) ((PN - 1) / 2) 1 (by decide +kernel)
    rw [Nat.one_mul] at h3
    have h4 := sq_121
    rw [h3] at h4
    omega
/-- d is no square. -/
theorem dE_sq (r : Fp) : r * r ≠ dE := by
  intro h
  obtain ⟨R, rfl⟩ : ∃ R, r = toF R := ⟨_, (toF_of r).symm⟩
  have h0 := dE_eq
  have key : ∀ a b r d : Fp, d * b = -a → r * r = d → (r * b) * (r * b) = -(a * b) := by intro a b r d h h'; grind
  have h1 := key _ _ _ _ h0 h
  rw [← toF_mul, ← toF_mul, ← toF_mul, ← toF_neg] at h1
  exact no_sq_121 (R * 121666) (toF_eq.1 h1)
/-- the curve of layer 7. -/
noncomputable def C7 : NS := ⟨dE, dE_sq⟩
end Go.Bas
