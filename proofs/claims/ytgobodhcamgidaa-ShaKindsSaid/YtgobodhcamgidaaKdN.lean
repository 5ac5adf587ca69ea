/-
  The first eighty primes, and the roots of them. No program in sight.
-/
import Derived.Test.YtgobodhcamgidaaShR
set_option linter.unusedVariables false
set_option linter.unusedSimpArgs false
namespace Go.Bas
def primesL : List Int := [2, 3, 5, 7, 11, 13, 17, 19, 23, 29, 31, 37, 41, 43, 47, 53, 59, 61, 67, 71, 73, 79, 83, 89, 97, 101, 103, 107, 109, 113, 127, 131, 137, 139, 149, 151, 157, 163, 167, 173, 179, 181, 191, 193, 197, 199, 211, 223, 227, 229, 233, 239, 241, 251, 257, 263, 269, 271, 277, 281, 283, 293, 307, 311, 313, 317, 331, 337, 347, 349, 353, 359, 367, 373, 379, 383, 389, 397, 401, 409]
def wholeC : List Int := [1, 1, 1, 1, 2, 2, 2, 2, 2, 3, 3, 3, 3, 3, 3, 3, 3, 3, 4, 4, 4, 4, 4, 4, 4, 4, 4, 4, 4, 4, 5, 5, 5, 5, 5, 5, 5, 5, 5, 5, 5, 5, 5, 5, 5, 5, 5, 6, 6, 6, 6, 6, 6, 6, 6, 6, 6, 6, 6, 6, 6, 6, 6, 6, 6, 6, 6, 6, 7, 7, 7, 7, 7, 7, 7, 7, 7, 7, 7, 7]
def wholeQ : List Int := [1, 1, 2, 2, 3, 3, 4, 4]
def prF (j : Nat) : Int := primesL.getD j 0
/-- how many of them are below p. -/
def cntP (p : Nat) : Nat := (primesL.filter fun q => decide (q < (p : Int))).length
theorem cntP_step : ∀ p : Fin 410, 2 ≤ p.val → (((∀ j : Fin 80, j.val < cntP p.val → (p.val : Int) % prF j.val ≠ 0) → (p.val : Int) = prF (cntP p.val) ∧ cntP (p.val + 1) = cntP p.val + 1) ∧ (¬ (∀ j : Fin 80, j.val < cntP p.val → (p.val : Int) % prF j.val ≠ 0) → cntP (p.val + 1) = cntP p.val)) ∧ cntP p.val < 80 := by decide +kernel
theorem cntP_2 : cntP 2 = 0 := by decide +kernel
theorem cntP_top : cntP 410 = 80 := by decide +kernel
theorem prF_pos : ∀ j : Fin 80, 2 ≤ prF j.val ∧ prF j.val ≤ 409 := by decide +kernel
theorem prF_bound {j : Nat} (h : j < 80) : 2 ≤ prF j ∧ prF j ≤ 409 := prF_pos ⟨j, h⟩
def rootC (i : Nat) : Int := wholeC.getD i 0 * 18446744073709551616 + kK i
def rootQ (i : Nat) : Int := wholeQ.getD i 0 * 18446744073709551616 + kB i
set_option maxRecDepth 100000 in
theorem rootC_all : ∀ i : Fin 80, 0 ≤ rootC i.val ∧ rootC i.val ^ 3 ≤ prF i.val * 2 ^ (64 * 3) ∧ prF i.val * 2 ^ (64 * 3) < (rootC i.val + 1) ^ 3 := by decide +kernel
theorem rootQ_all : ∀ i : Fin 8, 0 ≤ rootQ i.val ∧ rootQ i.val ^ 2 ≤ prF i.val * 2 ^ (64 * 2) ∧ prF i.val * 2 ^ (64 * 2) < (rootQ i.val + 1) ^ 2 := by decide +kernel
theorem rootC_is {i : Nat} (h : i < 80) : isRoot (prF i) 3 (rootC i) := rootC_all ⟨i, h⟩
theorem rootQ_is {i : Nat} (h : i < 8) : isRoot (prF i) 2 (rootQ i) := rootQ_all ⟨i, h⟩
theorem rootC_mod {i : Nat} (h : i < 80) : rootC i % M64 = kK i := by
  have := kK_bound i h
  unfold rootC M64 at *
  omega
theorem rootQ_mod {i : Nat} (h : i < 8) : rootQ i % M64 = kB i := by
  have := kB_bound i h
  unfold rootQ M64 at *
  omega
end Go.Bas
