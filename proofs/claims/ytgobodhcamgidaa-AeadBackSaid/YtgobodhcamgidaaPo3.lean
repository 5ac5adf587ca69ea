/-
  poly: Bytes, Add, Mul: what each makes of two numbers. Conditions: named in each theorem.
-/
import Derived.Test.YtgobodhcamgidaaPo2
set_option linter.unusedVariables false
set_option linter.unusedSimpArgs false
namespace Go.Bas
theorem two_parts (A B : Int) (hA : 0 ≤ A ∧ A < 256 ^ 17) (hB : 0 ≤ B ∧ B < 256 ^ 17) : sm 256 (fun i => dg 256 A i + dg 256 B i) 17 = A + B := by
  have := sm_lin 256 (dg 256 A) (dg 256 B) 1 1 17
  simp only [Int.one_mul] at this
  rw [this, sm_dg (by decide), sm_dg (by decide), Int.emod_eq_of_lt hA.1 hA.2, Int.emod_eq_of_lt hB.1 hB.2]
theorem one_part (A : Int) (hA : 0 ≤ A ∧ A < 256 ^ 17) : sm 256 (dg 256 A) 17 = A := by rw [sm_dg (by decide), Int.emod_eq_of_lt hA.1 hA.2]
theorem modPP (A : Int) : 0 ≤ A % PP ∧ A % PP < 256 ^ 17 := ⟨Int.emod_nonneg A (by decide), Int.lt_trans (Int.emod_lt_of_pos A (by decide)) (by decide)⟩
theorem prod_mod (f g : Nat → Int) : sm 256 (pd (fold5 (sm 256 (fun i => prodS f g i 17) 17))) 17 % PP = sm 256 f 17 * sm 256 g 17 % PP := by rw [sm_pd, fold5_mod, prodS_mod f g 17 (Nat.le_refl _)]
theorem prod_small {f g : Nat → Int} (hf : ∀ i, i < 17 → 0 ≤ f i ∧ f i ≤ 600) (hg : ∀ i, i < 17 → 0 ≤ g i ∧ g i ≤ 255) : ∀ i, i < 17 → 0 ≤ pd (fold5 (sm 256 (fun i => prodS f g i 17) 17)) i ∧ pd (fold5 (sm 256 (fun i => prodS f g i 17) 17)) i ≤ 300 := by
  have h := sm_top (f := fun i => prodS f g i 17) (fun i hi => by have := prodS_bound hf hg i hi 17 (Nat.le_refl _); omega)
  have h2 := fold5_bound h.1 h.2
  exact pd_small h2.1 h2.2
theorem dg_le (A : Int) (i : Nat) : 0 ≤ dg 256 A i ∧ dg 256 A i ≤ 255 := by have := dg_bound (by decide : (0 : Int) < 256) A i; omega
end Go.Bas
namespace Go.Proofs.Ytgobodhcamgidaa
open Go.RowKit Go.Bas
attribute [local go_sem ↓] Go.wp_at_zero Go.wp_at_succ

theorem reduced_dg (A : Int) (hA : 0 ≤ A ∧ A < 256 ^ 17) (w : World) :
    Calls Try.prog 89 #[.agg (arr .u32 17 (dg 256 A))] w fun e w' => e = .returned (.agg (arr .u32 17 (dg 256 (A % PP)))) ∧ Below w.heap.size w w' := by
  have h := reduced_any (dg 256 A) w (fun i _ => by have := dg_le A i; omega)
  rw [one_part A hA] at h
  exact h

theorem Try.size119 : (Try.prog.info? 119).map (·.size) = some 17 := by kernel_rfl

end Go.Proofs.Ytgobodhcamgidaa
