/-
  The field modulo the prime as a finite type. No program in sight.
-/
import Derived.Test.YtllkfkbioloaoaaLdC
set_option linter.unusedVariables false
set_option linter.unusedSimpArgs false
namespace Go.Bas
instance pn_ne : NeZero PN := ⟨by decide⟩
/-- the field's elements. -/
abbrev Fp : Type := Fin PN
/-- a number, modulo the prime. -/
def toF (X : Int) : Fp := ⟨(X % Pr).toNat, by have h := Int.emod_lt_of_pos X Pr_pos; have h0 := Int.emod_nonneg X (show Pr ≠ 0 by decide); rw [Pr_PN] at *; omega⟩
theorem toF_val (X : Int) : (((toF X).val : Nat) : Int) = X % Pr := by
  show (((X % Pr).toNat : Nat) : Int) = X % Pr
  exact Int.toNat_of_nonneg (Int.emod_nonneg X (by decide))
theorem toF_ext {x y : Fp} (h : ((x.val : Nat) : Int) = ((y.val : Nat) : Int)) : x = y := Fin.ext (by omega)
theorem toF_eq {X Y : Int} : toF X = toF Y ↔ Cg X Y := by
  constructor
  · intro h; unfold Cg; rw [← toF_val, ← toF_val, h]
  · intro h; exact toF_ext (by rw [toF_val, toF_val]; exact h)
theorem toF_of (x : Fp) : toF ((x.val : Nat) : Int) = x := toF_ext (by rw [toF_val, Pr_PN, ← Int.natCast_emod, Nat.mod_eq_of_lt x.isLt])
theorem toF_add (X Y : Int) : toF (X + Y) = toF X + toF Y := by
  refine toF_ext ?_
  rw [toF_val, Fin.val_add, Int.natCast_emod, Int.natCast_add, toF_val, toF_val, ← Pr_PN, ← Int.add_emod]
theorem toF_mul (X Y : Int) : toF (X * Y) = toF X * toF Y := by
  refine toF_ext ?_
  rw [toF_val, Fin.val_mul, Int.natCast_emod, Int.natCast_mul, toF_val, toF_val, ← Pr_PN, ← Int.mul_emod]
theorem toF_zero : toF 0 = 0 := toF_ext (by rw [toF_val]; rfl)
theorem toF_one : toF 1 = 1 := toF_ext (by rw [toF_val]; decide)
theorem toF_sub (X Y : Int) : toF (X - Y) = toF X - toF Y := by
  have h : toF (X - Y) + toF Y = toF X := by rw [← toF_add]; congr 1; omega
  grind
theorem toF_neg (X : Int) : toF (-X) = -toF X := by
  have h : toF (-X) + toF X = 0 := by rw [← toF_add, ← toF_zero]; congr 1; omega
  grind
theorem toF_nz {X : Int} : toF X ≠ 0 ↔ X % Pr ≠ 0 := by
  rw [← toF_zero, Ne, toF_eq]; exact Iff.rfl
theorem fp_one_ne : (1 : Fp) ≠ 0 := by rw [← toF_one]; exact toF_nz.2 (by decide)
theorem fp_two_ne : (2 : Fp) ≠ 0 := by
  have : (2 : Fp) = toF 2 := by rw [show (2 : Int) = 1 + 1 from rfl, toF_add, toF_one]; rfl
  rw [this]; exact toF_nz.2 (by decide)
theorem fp_inv {x : Fp} (h : x ≠ 0) : ∃ y : Fp, x * y = 1 := by
  obtain ⟨X, rfl⟩ : ∃ X, x = toF X := ⟨_, (toF_of x).symm⟩
  refine ⟨toF (X ^ (PN - 2)), ?_⟩
  have h1 := inv_cg 1 (toF_nz.1 h)
  rw [Int.one_mul] at h1
  rw [← toF_mul, ← toF_one]
  exact toF_eq.2 h1
theorem fp_mul_zero {x y : Fp} (h : x * y = 0) : x = 0 ∨ y = 0 := by
  by_cases hx : x = 0
  · exact .inl hx
  · obtain ⟨z, hz⟩ := fp_inv hx
    right
    grind
theorem fp_mul_ne {x y : Fp} (hx : x ≠ 0) (hy : y ≠ 0) : x * y ≠ 0 := fun h => (fp_mul_zero h).elim hx hy
theorem fp_cancel {x y z : Fp} (hz : z ≠ 0) (h : x * z = y * z) : x = y := by
  obtain ⟨w, hw⟩ := fp_inv hz
  grind
/-- the inverse; of nought, nought. -/
noncomputable def inv (x : Fp) : Fp := open Classical in if h : ∃ y : Fp, x * y = 1 then Classical.choose h else 0
theorem inv_mul {x : Fp} (h : x ≠ 0) : x * inv x = 1 := by
  unfold inv
  rw [dif_pos (fp_inv h)]
  exact Classical.choose_spec (fp_inv h)
theorem inv_none : inv 0 = 0 := by
  unfold inv
  rw [dif_neg]
  rintro ⟨y, hy⟩
  exact fp_one_ne (by grind)
theorem inv_uniq {x y : Fp} (h : x * y = 1) : y = inv x := by
  have hx : x ≠ 0 := by intro e; subst e; exact fp_one_ne (by grind)
  have := inv_mul hx
  grind
theorem toF_inv (X : Int) : toF (X ^ (PN - 2)) = inv (toF X) := by
  by_cases h : X % Pr = 0
  · have h1 : toF X = 0 := by rw [← toF_zero]; exact toF_eq.2 h
    rw [h1, inv_none, ← toF_zero]
    exact toF_eq.2 (show X ^ (PN - 2) % Pr = 0 % Pr by rw [inv_zero h]; rfl)
  · refine inv_uniq ?_
    have h1 := inv_cg 1 h
    rw [Int.one_mul] at h1
    rw [← toF_mul, ← toF_one]
    exact toF_eq.2 h1
end Go.Bas
