/-
  Part 24 of the texts that the proof of SignBack rests on, one after the other. Conditions: named in each theorem.
-/
import Derived.Test.YtdhejcaapdhhfaaPkSignBack22
import Derived.Test.YtdhejcaapdhhfaaPkSignBack21
import Derived.Test.YtdhejcaapdhhfaaPkSignBack17
import Derived.Test.YtdhejcaapdhhfaaPkSignBack15
import Derived.Test.YtdhejcaapdhhfaaPkSignBack14
import Derived.Test.YtdhejcaapdhhfaaPkSignBack1
import Derived.Test.YtdhejcaapdhhfaaPkSignBack8
import Derived.Test.YtdhejcaapdhhfaaPkSignBack2
import Derived.Test.YtdhejcaapdhhfaaPkSignBack5
import Derived.Test.YtdhejcaapdhhfaaPkSignBack9
import Derived.Test.YtdhejcaapdhhfaaPkSignBack7
import Derived.Test.YtdhejcaapdhhfaaPkSignBack3
import Derived.Test.YtdhejcaapdhhfaaPkSignBack19
import Derived.Test.YtdhejcaapdhhfaaPkSignBack18
import Derived.Test.YtdhejcaapdhhfaaPkSignBack6
import Derived.Test.YtdhejcaapdhhfaaPkSignBack20
import Derived.Test.YtdhejcaapdhhfaaPkSignBack23
import Derived.BigFrame
import Derived.BigQuiet
import Derived.ChangeKeysEq
import Derived.ChangeOld
import Derived.Deep.Cut
import Derived.Deep.DrawnRows
import Derived.Deep.LoopGhost
import Derived.Deep.MidRow
import Derived.Deep.QuietTactic
import Derived.Deep.RegionHeld3
import Derived.Deep.RegionLaw
import Derived.Deep.WholeRow
import Derived.Great.BuildSlice
import Derived.Laws.BitsAllLaws
import Derived.Laws.BytesArg
import Derived.Laws.CopyOwn
import Derived.Laws.IdiomCopy
import Derived.Laws.Strings
import Derived.Laws.StructEq
import Derived.Lib.BufferRead
import Derived.Lib.Hide
import Derived.Maps.AppendAt
import Derived.Maps.Range
import Derived.OpenShut
import Derived.Orders
import Derived.OrdersIn
import Derived.OwnWalkIn
import Derived.ProofKit
import Derived.RangeFuncCalls
import Derived.ShutString
import Derived.Test.YtdhejcaapdhhfaaArr
import Derived.Test.YtdhejcaapdhhfaaFlow
import Derived.Test.YtdhejcaapdhhfaaKit
import Derived.Test.YtdhejcaapdhhfaaOpen
import Derived.Test.YtdhejcaapdhhfaaRows
import Derived.Test.YtdhejcaapdhhfaaTxt
import Derived.WalkKit
import Derived.WalkLawsBesides
import Derived.WalkSmall
import Derived.WalkSpells
set_option linter.unusedVariables false
set_option linter.unusedSimpArgs false
namespace Go.Bas
theorem zero_mul' (n : Nat) : (Ed.zero : Ed C7).mul n = .zero := by
  induction n with
  | zero => rfl
  | succ n ih => rw [Ed.mul_add, Ed.mul_one, ih]; exact Ed.add_zero _
theorem base_mod' (n : Nat) : Bp.mul (n % ordN) = Bp.mul n := by
  have h : Bp.mul n = (Bp.mul (ordN * (n / ordN))).add (Bp.mul (n % ordN)) := by rw [← Ed.mul_add, Nat.div_add_mod]
  rw [h, Ed.mul_mul, base_order, zero_mul', Ed.add_comm, Ed.add_zero]
theorem Bp_ne : Bp ≠ .zero := by
  intro h
  have h1 := Bp_y
  rw [h] at h1
  have h2 : edY (.zero : Ed C7) = 1 := by unfold edY Ed.zero; decide +kernel
  rw [h2] at h1
  exact absurd h1 (by unfold BY; decide)
/-- no power of two times the base is nought. -/
theorem two_base (j : Nat) : Bp.mul (2 ^ j) ≠ .zero := by
  intro h
  apply Bp_ne
  have h1 : Bp.mul (2 ^ j * ((ordN + 1) / 2) ^ j) = .zero := by rw [Ed.mul_mul, h, zero_mul']
  rw [← base_mod', ← Nat.mul_pow, show 2 * ((ordN + 1) / 2) = ordN + 1 by decide, Nat.pow_mod, Nat.add_mod_left, show 1 % ordN = 1 by decide, Nat.one_pow, show 1 % ordN = 1 by decide, Ed.mul_one] at h1
  exact h1
theorem add_cancel {p q r : Ed C7} (h : p.add r = q.add r) : p = q := by
  have h2 : (p.add r).add r.neg = (q.add r).add r.neg := by rw [h]
  rwa [Ed.add_assoc, Ed.add_assoc, Ed.add_neg, Ed.add_zero, Ed.add_zero] at h2
/-- the same multiple of the base with one bit turned: there is none. -/
theorem base_turned {m n j : Nat} (h : m + 2 ^ j = n) : Bp.mul m ≠ Bp.mul n := by
  intro e
  rw [← h, Nat.add_comm, Ed.mul_add] at e
  refine two_base j (add_cancel (r := Bp.mul m) ?_)
  rw [Ed.zero_add]; exact e.symm
/-- a point is told by its bytes. -/
theorem x_of_y {x x' y d : Fp} (h : y ^ 2 - x ^ 2 = 1 + d * x ^ 2 * y ^ 2) (h' : y ^ 2 - x' ^ 2 = 1 + d * x' ^ 2 * y ^ 2) : (x - x') * (x + x') * (1 + d * (y * y)) = 0 := by grind
theorem fp_sub_zero {x y : Fp} (h : x - y = 0) : x = y := by grind
theorem fp_neg_zero {x : Fp} (h : x = 0) : -x = x := by rw [h, ← toF_zero, ← toF_neg]; rfl
theorem dbl_four {x y d X Y : Fp} (hx : x = 0) (hy : y = -1) (hX : X * (1 + d * (x * x * (y * y))) = x * y + x * y) (hY : Y * (1 - d * (x * x * (y * y))) = y * y + x * x) : X = 0 ∧ Y = 1 := by
  have e1 : X * (1 + d * (x * x * (y * y))) = X := by clear hX hY hy; grind
  have e2 : Y * (1 - d * (x * x * (y * y))) = Y := by clear hX hY hy e1; grind
  have e3 : x * y + x * y = 0 := by clear hX hY hy e1 e2; grind
  have e4 : y * y + x * x = 1 := by clear hX hY e1 e2 e3; grind
  exact ⟨e1.symm.trans (hX.trans e3), e2.symm.trans (hY.trans e4)⟩
theorem fp_add_zero {x y : Fp} (h : x + y = 0) : x = -y := by grind
theorem bytesN_inj {p q : Ed C7} (h : bytesN p = bytesN q) : p = q := by
  unfold bytesN at h
  have hx := fp_val_b p.x
  have hx' := fp_val_b q.x
  have hy := fp_val_b p.y
  have hy' := fp_val_b q.y
  have hP : Pr < 2 ^ 255 := by decide
  have hP2 : Pr % 2 = 1 := by decide
  unfold edY edX at h
  have e1 : ((p.y.val : Nat) : Int) = ((q.y.val : Nat) : Int) := by omega
  have e2 : ((p.x.val : Nat) : Int) % 2 = ((q.x.val : Nat) : Int) % 2 := by omega
  have ey : p.y = q.y := toF_ext e1
  have ho : p.y ^ 2 - p.x ^ 2 = 1 + dE * p.x ^ 2 * p.y ^ 2 := p.on
  have ho' : q.y ^ 2 - q.x ^ 2 = 1 + dE * q.x ^ 2 * q.y ^ 2 := q.on
  rw [← ey] at ho'
  rcases fp_mul_zero (x_of_y ho ho') with h1 | h1
  · rcases fp_mul_zero h1 with h2 | h2
    · exact Ed.ext (fp_sub_zero h2) ey
    · have h3 := fp_add_zero h2
      refine Ed.ext ?_ ey
      by_cases hz : q.x = 0
      · rw [h3]; exact fp_neg_zero hz
      · exfalso
        have h4 : ((p.x.val : Nat) : Int) = -((q.x.val : Nat) : Int) % Pr := by rw [h3, ← toF_of q.x, ← toF_neg, toF_val, toF_of]
        have hn : ((q.x.val : Nat) : Int) ≠ 0 := fun e => hz (toF_ext (by rw [e]; rfl))
        have h5 : -((q.x.val : Nat) : Int) % Pr = Pr - ((q.x.val : Nat) : Int) := by
          have e3 : -((q.x.val : Nat) : Int) % Pr = (Pr - ((q.x.val : Nat) : Int)) % Pr := mod_eq_of (c := -1) (by omega)
          rw [e3]; exact Int.emod_eq_of_lt (by omega) (by omega)
        omega
  · exact absurd h1 (one_dy_ne _)
theorem bytesN_bound (p : Ed C7) : 0 ≤ bytesN p ∧ bytesN p < 2 ^ 256 := by
  unfold bytesN edY edX
  have hy := fp_val_b p.y
  have hP : Pr < 2 ^ 255 := by decide
  omega
/-- a point whose bytes are all 0 is of order four. -/
theorem four_zero {x y d X Y : Fp} (hy : y = 0) (ho : y ^ 2 - x ^ 2 = 1 + d * x ^ 2 * y ^ 2) (hX : X * (1 + d * (x * x * (y * y))) = x * y + x * y) (hY : Y * (1 - d * (x * x * (y * y))) = y * y + x * x) : X = 0 ∧ Y = -1 := by
  have e1 : X * (1 + d * (x * x * (y * y))) = X := by clear hX hY ho; grind
  have e2 : Y * (1 - d * (x * x * (y * y))) = Y := by clear hX hY ho e1; grind
  have e3 : x * y + x * y = 0 := by clear hX hY ho e1 e2; grind
  have e4 : y * y + x * x = -1 := by clear hX hY e1 e2 e3; grind
  exact ⟨e1.symm.trans (hX.trans e3), e2.symm.trans (hY.trans e4)⟩
theorem base_bytes_ne (n : Nat) : bytesN (Bp.mul n) ≠ 0 := by
  intro h
  obtain ⟨p, hp⟩ : ∃ p, p = Bp.mul n := ⟨_, rfl⟩
  rw [← hp] at h
  have hL : p.mul ordN = .zero := by rw [hp, ← Ed.mul_mul, Nat.mul_comm, Ed.mul_mul, base_order, zero_mul']
  have hy0 : p.y = 0 := by
    unfold bytesN edY edX at h
    have hy := fp_val_b p.y
    have hx := fp_val_b p.x
    exact toF_ext (by rw [show ((p.y.val : Nat) : Int) = 0 by omega]; rfl)
  have h2 := four_zero hy0 p.on (p.add_x p) (p.add_y p)
  have h4 : (p.add p).add (p.add p) = .zero := by
    have a := (p.add p).add_x (p.add p)
    have b := (p.add p).add_y (p.add p)
    have r := dbl_four h2.1 h2.2 a b
    exact Ed.ext r.1 r.2
  have h5 : p.mul 4 = .zero := by rw [show (4 : Nat) = 1 + 1 + (1 + 1) by decide, Ed.mul_add, Ed.mul_add, Ed.mul_one, h4]
  have h6 : p = .zero := by
    have e : ordN = 4 * (ordN / 4) + 1 := by decide
    rw [e, Ed.mul_add, Ed.mul_mul, h5, zero_mul', Ed.mul_one, Ed.zero_add] at hL
    exact hL
  rw [h6] at hy0
  exact fp_one_ne hy0
/-! one bit of a number turned -/
theorem xor_bit (x : Int) (b : Nat) (h0 : 0 ≤ x) (h1 : x < 256) (hb : b < 8) : bits .xor .u8 x (2 ^ b) = if x / 2 ^ b % 2 = 0 then x + 2 ^ b else x - 2 ^ b := by
  obtain ⟨n, rfl⟩ := Int.eq_ofNat_of_zero_le h0
  have key : ∀ (n : Fin 256) (b : Fin 8), bits .xor .u8 ((n.val : Nat) : Int) (2 ^ b.val) = if ((n.val : Nat) : Int) / 2 ^ b.val % 2 = 0 then ((n.val : Nat) : Int) + 2 ^ b.val else ((n.val : Nat) : Int) - 2 ^ b.val := by decide +kernel
  exact key ⟨n, by omega⟩ ⟨b, hb⟩
theorem turned (S : Nat) (hS : S < 2 ^ 256) (j : Nat) (hj : j < 256) : ∃ T : Nat, T < 2 ^ 256 ∧ (S + 2 ^ j = T ∨ T + 2 ^ j = S) ∧ ∀ i, i < 32 → upd (dg 256 (S : Int)) (j / 8) (bits .xor .u8 (dg 256 (S : Int) (j / 8)) (2 ^ (j % 8))) i = dg 256 (T : Int) i := by
  have hb : j % 8 < 8 := Nat.mod_lt _ (by decide)
  have hd := dg_bound (by decide : (0 : Int) < 256) (S : Int) (j / 8)
  have hx := xor_bit _ _ hd.1 hd.2 hb
  obtain ⟨x, hxd⟩ : ∃ x, x = dg 256 (S : Int) (j / 8) := ⟨_, rfl⟩
  rw [← hxd] at hx hd ⊢
  obtain ⟨y, hy⟩ : ∃ y, y = bits .xor .u8 x (2 ^ (j % 8)) := ⟨_, rfl⟩
  rw [← hy] at hx ⊢
  have hp : (0 : Int) < 2 ^ (j % 8) := pow_pos' (by decide) _
  have hyb : 0 ≤ y ∧ y < 256 := by
    rw [hx]
    have key : ∀ (n : Fin 256) (b : Fin 8), 0 ≤ (if ((n.val : Nat) : Int) / 2 ^ b.val % 2 = 0 then ((n.val : Nat) : Int) + 2 ^ b.val else ((n.val : Nat) : Int) - 2 ^ b.val) ∧ (if ((n.val : Nat) : Int) / 2 ^ b.val % 2 = 0 then ((n.val : Nat) : Int) + 2 ^ b.val else ((n.val : Nat) : Int) - 2 ^ b.val) < 256 := by decide +kernel
    obtain ⟨n, rfl⟩ := Int.eq_ofNat_of_zero_le hd.1
    exact key ⟨n, by omega⟩ ⟨j % 8, hb⟩
  have hf : ∀ i, i < 32 → 0 ≤ upd (dg 256 (S : Int)) (j / 8) y i ∧ upd (dg 256 (S : Int)) (j / 8) y i < 256 := fun i _ => by
    unfold upd
    split
    · exact hyb
    · exact dg_bound (by decide) _ _
  have hs := sm_upd' 256 (dg 256 (S : Int)) (j / 8) y 32
  rw [if_pos (by omega), sm_dg (by decide), Int.emod_eq_of_lt (by omega) (by omega), ← hxd] at hs
  have hbd := sm_bound (by decide : (0 : Int) < 256) hf
  obtain ⟨T, hT⟩ := Int.eq_ofNat_of_zero_le hbd.1
  have e8 : (2 : Int) ^ (j % 8) * 256 ^ (j / 8) = ((2 ^ j : Nat) : Int) := by
    have e : (256 : Int) ^ (j / 8) = 2 ^ (8 * (j / 8)) := by rw [Int.pow_mul]; rfl
    rw [e, ← Int.pow_add, show j % 8 + 8 * (j / 8) = j by omega]
    simp
  refine ⟨T, by omega, ?_, fun i hi => ?_⟩
  · rw [hT] at hs
    by_cases hc : x / 2 ^ (j % 8) % 2 = 0
    · rw [if_pos hc] at hx
      rw [hx, show x + 2 ^ (j % 8) - x = 2 ^ (j % 8) by omega, e8] at hs
      left; omega
    · rw [if_neg hc] at hx
      rw [hx, show x - 2 ^ (j % 8) - x = -(2 ^ (j % 8)) by omega, Int.neg_mul, e8] at hs
      right; omega
  · rw [← hT]; exact (dg_sm (by decide) hf i hi).symm
end Go.Bas
namespace Go.Proofs.Ytdhejcaapdhhfaa
open Go.Bas
/-- a point's bytes are a point. -/
theorem ofOk_bytes (p : Ed C7) : ofOk (bytesN p) := by
  have hy := fp_val_b p.y
  have hP : Pr < 2 ^ 255 := by decide
  have e1 : bytesN p % 2 ^ 255 = edY p := by unfold bytesN edY edX; omega
  have e2 : bytesN p / 2 ^ 255 = edX p % 2 := by unfold bytesN edY edX; omega
  unfold ofOk
  rw [e1, e2]
  have hy2 : toF (edY p) = p.y := edY_f p
  refine ⟨hy.2, fst_isSq hy2, fun h => ?_⟩
  have h1 : edX p * edX p % Pr = fstN (edY p) % Pr := fst_sq hy2
  have h2 := (root_zero h1).2 h.1
  have hx := fp_val_b p.x
  rw [Int.emod_eq_of_lt (by exact hx.1) (by exact hx.2)] at h2
  rw [h2] at h
  exact absurd h.2 (by decide)
end Go.Proofs.Ytdhejcaapdhhfaa
