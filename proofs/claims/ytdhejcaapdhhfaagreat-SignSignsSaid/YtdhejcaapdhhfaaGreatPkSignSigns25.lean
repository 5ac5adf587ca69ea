/-
  Part 25 of the texts that the proof of SignSigns rests on, one after the other. Conditions: named in each theorem.
-/
import Derived.Test.YtdhejcaapdhhfaaGreatPkSignSigns8
import Derived.BigQuiet
import Derived.ChangeKeysEq
import Derived.Deep.DrawnRows
import Derived.Deep.QuietTactic
import Derived.Deep.RegionHeld3
import Derived.Deep.WholeRow
import Derived.Great.BuildSlice
import Derived.Laws.CopyOwn
import Derived.Laws.StructEq
import Derived.Lib.Hide
import Derived.Orders
import Derived.Test.YtdhejcaapdhhfaaGreatArr
import Derived.Test.YtdhejcaapdhhfaaGreatFlow
import Derived.Test.YtdhejcaapdhhfaaGreatKit
import Derived.Test.YtdhejcaapdhhfaaGreatTxt
import Derived.WalkKit
import Derived.WalkLawsBesides
import Derived.WalkSmall
import Derived.WalkSpells
set_option linter.unusedVariables false
set_option linter.unusedSimpArgs false
namespace Go.Bas
open Go.RowKit
/-- one function behind another. -/
def catF (n : Nat) (f g : Nat → Int) (i : Nat) : Int := if i < n then f i else g (i - n)
theorem catF_lo {n i : Nat} {f g : Nat → Int} (h : i < n) : catF n f g i = f i := if_pos h
theorem catF_hi {n i : Nat} {f g : Nat → Int} : catF n f g (n + i) = g i := by unfold catF; rw [if_neg (by omega), Nat.add_sub_cancel_left]
theorem catF_bound {n m : Nat} {f g : Nat → Int} (hf : ∀ i, i < n → 0 ≤ f i ∧ f i < 256) (hg : ∀ i, i < m → 0 ≤ g i ∧ g i < 256) : ∀ i, i < n + m → 0 ≤ catF n f g i ∧ catF n f g i < 256 := by
  intro i hi
  unfold catF
  split
  · exact hf i (by omega)
  · exact hg _ (by omega)
def catL (m : Nat) (l1 l2 : Nat → Nat) (j : Nat) : Nat := if j < m then l1 j else l2 (j - m)
def catG (m : Nat) (g1 g2 : Nat → Nat → Int) (j : Nat) : Nat → Int := if j < m then g1 j else g2 (j - m)
theorem offs_cat_lo (m : Nat) (l1 l2 : Nat → Nat) : ∀ j, j ≤ m → offs (catL m l1 l2) j = offs l1 j := by
  intro j
  induction j with
  | zero => intro _; rfl
  | succ j ih => intro h; rw [offs, offs, ih (by omega)]; unfold catL; rw [if_pos (by omega)]
theorem offs_cat (m : Nat) (l1 l2 : Nat → Nat) : ∀ j, offs (catL m l1 l2) (m + j) = offs l1 m + offs l2 j := by
  intro j
  induction j with
  | zero => exact offs_cat_lo m l1 l2 m (Nat.le_refl _)
  | succ j ih => rw [← Nat.add_assoc, offs, offs, ih]; unfold catL; rw [if_neg (by omega), Nat.add_sub_cancel_left]; omega
theorem flat_cat {m m2 : Nat} {l1 l2 : Nat → Nat} {g1 g2 : Nat → Nat → Int} {F : Nat → Int} (h1 : ∀ j, j < m → ∀ i, i < l1 j → F (offs l1 j + i) = g1 j i) (h2 : ∀ j, j < m2 → ∀ i, i < l2 j → F (offs l1 m + (offs l2 j + i)) = g2 j i) :
    ∀ j, j < m + m2 → ∀ i, i < catL m l1 l2 j → F (offs (catL m l1 l2) j + i) = catG m g1 g2 j i := by
  intro j hj i hi
  unfold catL at hi
  unfold catG
  by_cases h : j < m
  · rw [if_pos h] at hi ⊢
    rw [offs_cat_lo m l1 l2 j (by omega)]
    exact h1 j h i hi
  · rw [if_neg h] at hi ⊢
    obtain ⟨q, rfl⟩ : ∃ q, j = m + q := ⟨j - m, by omega⟩
    rw [Nat.add_sub_cancel_left] at hi ⊢
    rw [offs_cat, Nat.add_assoc]
    exact h2 q (by omega) i hi
/-- flat texts end to end, the functions given. -/
theorem flat_cat' {m m2 : Nat} {l1 l2 : Nat → Nat} {g1 g2 : Nat → Nat → Int} {F1 F2 : Nat → Int} (h1 : ∀ j, j < m → ∀ i, i < l1 j → F1 (offs l1 j + i) = g1 j i) (h2 : ∀ j, j < m2 → ∀ i, i < l2 j → F2 (offs l2 j + i) = g2 j i) :
    ∀ j, j < m + m2 → ∀ i, i < catL m l1 l2 j → catF (offs l1 m) F1 F2 (offs (catL m l1 l2) j + i) = catG m g1 g2 j i := by
  refine flat_cat (fun j hj i hi => ?_) (fun j hj i hi => ?_)
  · have := offs_mono l1 (show j + 1 ≤ m by omega)
    rw [offs] at this
    rw [catF_lo (by omega)]
    exact h1 j hj i hi
  · rw [catF_hi]
    exact h2 j hj i hi
end Go.Bas
