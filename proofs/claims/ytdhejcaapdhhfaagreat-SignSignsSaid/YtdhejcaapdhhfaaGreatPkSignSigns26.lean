/-
  Part 26 of the texts that the proof of SignSigns rests on, one after the other. Conditions: named in each theorem.
-/
import Derived.Test.YtdhejcaapdhhfaaGreatPkSignSigns24
import Derived.Test.YtdhejcaapdhhfaaGreatPkSignSigns22
import Derived.Test.YtdhejcaapdhhfaaGreatPkSignSigns18
import Derived.Test.YtdhejcaapdhhfaaGreatPkSignSigns15
import Derived.Test.YtdhejcaapdhhfaaGreatPkSignSigns14
import Derived.Test.YtdhejcaapdhhfaaGreatPkSignSigns1
import Derived.Test.YtdhejcaapdhhfaaGreatPkSignSigns8
import Derived.Test.YtdhejcaapdhhfaaGreatPkSignSigns2
import Derived.Test.YtdhejcaapdhhfaaGreatPkSignSigns5
import Derived.Test.YtdhejcaapdhhfaaGreatPkSignSigns9
import Derived.Test.YtdhejcaapdhhfaaGreatPkSignSigns17
import Derived.Test.YtdhejcaapdhhfaaGreatPkSignSigns11
import Derived.Test.YtdhejcaapdhhfaaGreatPkSignSigns7
import Derived.Test.YtdhejcaapdhhfaaGreatPkSignSigns3
import Derived.Test.YtdhejcaapdhhfaaGreatPkSignSigns20
import Derived.Test.YtdhejcaapdhhfaaGreatPkSignSigns19
import Derived.Test.YtdhejcaapdhhfaaGreatPkSignSigns6
import Derived.Test.YtdhejcaapdhhfaaGreatPkSignSigns21
import Derived.Test.YtdhejcaapdhhfaaGreatPkSignSigns23
import Derived.Test.YtdhejcaapdhhfaaGreatPkSignSigns25
import Derived.BigFrame
import Derived.BigQuiet
import Derived.ChangeKeysEq
import Derived.ChangeOld
import Derived.Deep.Cut
import Derived.Deep.DrawnRows
import Derived.Deep.LoopGhost
import Derived.Deep.MidRow
import Derived.Deep.QuietTactic
import Derived.Deep.RegionHeld3
import Derived.Deep.RegionLaw
import Derived.Deep.WholeRow
import Derived.Great.BuildSlice
import Derived.Laws.BitsAllLaws
import Derived.Laws.BytesArg
import Derived.Laws.CopyOwn
import Derived.Laws.IdiomCopy
import Derived.Laws.Strings
import Derived.Laws.StructEq
import Derived.Lib.BufferRead
import Derived.Lib.Hide
import Derived.Maps.AppendAt
import Derived.Maps.Range
import Derived.OpenShut
import Derived.Orders
import Derived.OrdersIn
import Derived.OwnWalkIn
import Derived.ProofKit
import Derived.RangeFuncCalls
import Derived.ShutString
import Derived.Test.YtdhejcaapdhhfaaGreatArr
import Derived.Test.YtdhejcaapdhhfaaGreatFlow
import Derived.Test.YtdhejcaapdhhfaaGreatKit
import Derived.Test.YtdhejcaapdhhfaaGreatOpen
import Derived.Test.YtdhejcaapdhhfaaGreatRows
import Derived.Test.YtdhejcaapdhhfaaGreatTxt
import Derived.WalkKit
import Derived.WalkLawsBesides
import Derived.WalkSmall
import Derived.WalkSpells
set_option linter.unusedVariables false
set_option linter.unusedSimpArgs false
namespace Go.Bas
theorem zero_mul' (n : Nat) : (Ed.zero : Ed C7).mul n = .zero := by
  induction n with
  | zero => rfl
  | succ n ih => rw [Ed.mul_add, Ed.mul_one, ih]; exact Ed.add_zero _
theorem base_mod' (n : Nat) : Bp.mul (n % ordN) = Bp.mul n := by
  have h : Bp.mul n = (Bp.mul (ordN * (n / ordN))).add (Bp.mul (n % ordN)) := by rw [← Ed.mul_add, Nat.div_add_mod]
  rw [h, Ed.mul_mul, base_order, zero_mul', Ed.add_comm, Ed.add_zero]
/-- a point is told by its bytes. -/
theorem x_of_y {x x' y d : Fp} (h : y ^ 2 - x ^ 2 = 1 + d * x ^ 2 * y ^ 2) (h' : y ^ 2 - x' ^ 2 = 1 + d * x' ^ 2 * y ^ 2) : (x - x') * (x + x') * (1 + d * (y * y)) = 0 := by grind
theorem fp_sub_zero {x y : Fp} (h : x - y = 0) : x = y := by grind
theorem fp_neg_zero {x : Fp} (h : x = 0) : -x = x := by rw [h, ← toF_zero, ← toF_neg]; rfl
theorem dbl_four {x y d X Y : Fp} (hx : x = 0) (hy : y = -1) (hX : X * (1 + d * (x * x * (y * y))) = x * y + x * y) (hY : Y * (1 - d * (x * x * (y * y))) = y * y + x * x) : X = 0 ∧ Y = 1 := by
  have e1 : X * (1 + d * (x * x * (y * y))) = X := by clear hX hY hy; grind
  have e2 : Y * (1 - d * (x * x * (y * y))) = Y := by clear hX hY hy e1; grind
  have e3 : x * y + x * y = 0 := by clear hX hY hy e1 e2; grind
  have e4 : y * y + x * x = 1 := by clear hX hY e1 e2 e3; grind
  exact ⟨e1.symm.trans (hX.trans e3), e2.symm.trans (hY.trans e4)⟩
theorem fp_add_zero {x y : Fp} (h : x + y = 0) : x = -y := by grind
theorem bytesN_inj {p q : Ed C7} (h : bytesN p = bytesN q) : p = q := by
  unfold bytesN at h
  have hx := fp_val_b p.x
  have hx' := fp_val_b q.x
  have hy := fp_val_b p.y
  have hy' := fp_val_b q.y
  have hP : Pr < 2 ^ 255 := by decide
  have hP2 : Pr % 2 = 1 := by decide
  unfold edY edX at h
  have e1 : ((p.y.val : Nat) : Int) = ((q.y.val : Nat) : Int) := by omega
  have e2 : ((p.x.val : Nat) : Int) % 2 = ((q.x.val : Nat) : Int) % 2 := by omega
  have ey : p.y = q.y := toF_ext e1
  have ho : p.y ^ 2 - p.x ^ 2 = 1 + dE * p.x ^ 2 * p.y ^ 2 := p.on
  have ho' : q.y ^ 2 - q.x ^ 2 = 1 + dE * q.x ^ 2 * q.y ^ 2 := q.on
  rw [← ey] at ho'
  rcases fp_mul_zero (x_of_y ho ho') with h1 | h1
  · rcases fp_mul_zero h1 with h2 | h2
    · exact Ed.ext (fp_sub_zero h2) ey
    · have h3 := fp_add_zero h2
      refine Ed.ext ?_ ey
      by_cases hz : q.x = 0
      · rw [h3]; exact fp_neg_zero hz
      · exfalso
        have h4 : ((p.x.val : Nat) : Int) = -((q.x.val : Nat) : Int) % Pr := by rw [h3, ← toF_of q.x, ← toF_neg, toF_val, toF_of]
        have hn : ((q.x.val : Nat) : Int) ≠ 0 := fun e => hz (toF_ext (by rw [e]; rfl))
        have h5 : -((q.x.val : Nat) : Int) % Pr = Pr - ((q.x.val : Nat) : Int) := by
          have e3 : -((q.x.val : Nat) : Int) % Pr = (Pr - ((q.x.val : Nat) : Int)) % Pr := mod_eq_of (c := -1) (by omega)
          rw [e3]; exact Int.emod_eq_of_lt (by omega) (by omega)
        omega
  · exact absurd h1 (one_dy_ne _)
theorem bytesN_bound (p : Ed C7) : 0 ≤ bytesN p ∧ bytesN p < 2 ^ 256 := by
  unfold bytesN edY edX
  have hy := fp_val_b p.y
  have hP : Pr < 2 ^ 255 := by decide
  omega
/-- a point whose bytes are all 0 is of order four. -/
theorem four_zero {x y d X Y : Fp} (hy : y = 0) (ho : y ^ 2 - x ^ 2 = 1 + d * x ^ 2 * y ^ 2) (hX : X * (1 + d * (x * x * (y * y))) = x * y + x * y) (hY : Y * (1 - d * (x * x * (y * y))) = y * y + x * x) : X = 0 ∧ Y = -1 := by
  have e1 : X * (1 + d * (x * x * (y * y))) = X := by clear hX hY ho; grind
  have e2 : Y * (1 - d * (x * x * (y * y))) = Y := by clear hX hY ho e1; grind
  have e3 : x * y + x * y = 0 := by clear hX hY ho e1 e2; grind
  have e4 : y * y + x * x = -1 := by clear hX hY e1 e2 e3; grind
  exact ⟨e1.symm.trans (hX.trans e3), e2.symm.trans (hY.trans e4)⟩
theorem base_bytes_ne (n : Nat) : bytesN (Bp.mul n) ≠ 0 := by
  intro h
  obtain ⟨p, hp⟩ : ∃ p, p = Bp.mul n := ⟨_, rfl⟩
  rw [← hp] at h
  have hL : p.mul ordN = .zero := by rw [hp, ← Ed.mul_mul, Nat.mul_comm, Ed.mul_mul, base_order, zero_mul']
  have hy0 : p.y = 0 := by
    unfold bytesN edY edX at h
    have hy := fp_val_b p.y
    have hx := fp_val_b p.x
    exact toF_ext (by rw [show ((p.y.val : Nat) : Int) = 0 by omega]; rfl)
  have h2 := four_zero hy0 p.on (p.add_x p) (p.add_y p)
  have h4 : (p.add p).add (p.add p) = .zero := by
    have a := (p.add p).add_x (p.add p)
    have b := (p.add p).add_y (p.add p)
    have r := dbl_four h2.1 h2.2 a b
    exact Ed.ext r.1 r.2
  have h5 : p.mul 4 = .zero := by rw [show (4 : Nat) = 1 + 1 + (1 + 1) by decide, Ed.mul_add, Ed.mul_add, Ed.mul_one, h4]
  have h6 : p = .zero := by
    have e : ordN = 4 * (ordN / 4) + 1 := by decide
    rw [e, Ed.mul_add, Ed.mul_mul, h5, zero_mul', Ed.mul_one, Ed.zero_add] at hL
    exact hL
  rw [h6] at hy0
  exact fp_one_ne hy0
/-! one bit of a number turned -/
end Go.Bas
namespace Go.Proofs.YtdhejcaapdhhfaaGreat
open Go.Bas
/-- a point's bytes are a point. -/
theorem ofOk_bytes (p : Ed C7) : ofOk (bytesN p) := by
  have hy := fp_val_b p.y
  have hP : Pr < 2 ^ 255 := by decide
  have e1 : bytesN p % 2 ^ 255 = edY p := by unfold bytesN edY edX; omega
  have e2 : bytesN p / 2 ^ 255 = edX p % 2 := by unfold bytesN edY edX; omega
  unfold ofOk
  rw [e1, e2]
  have hy2 : toF (edY p) = p.y := edY_f p
  refine ⟨hy.2, fst_isSq hy2, fun h => ?_⟩
  have h1 : edX p * edX p % Pr = fstN (edY p) % Pr := fst_sq hy2
  have h2 := (root_zero h1).2 h.1
  have hx := fp_val_b p.x
  rw [Int.emod_eq_of_lt (by exact hx.1) (by exact hx.2)] at h2
  rw [h2] at h
  exact absurd h.2 (by decide)
end Go.Proofs.YtdhejcaapdhhfaaGreat
