/-
  Part 7 of the texts that the proof of PointOf rests on, one after the other. Conditions: named in each theorem.
-/
import Derived.Test.YtdhejcaapdhhfaaPkPointOf5
import Derived.Laws.BitsAllLaws
set_option linter.unusedVariables false
set_option linter.unusedSimpArgs false
namespace Go.Bas
open Go.RowKit
theorem i64_toInt (X : BitVec 64) : IntKind.i64.wrap (X.toNat : Int) = X.toInt := by
  rw [IntKind.wrap_i64, BitVec.toInt_eq_toNat_bmod, Int.bmod_def]
  have := X.isLt
  omega
theorem bits_or_i64 (a b : Int) : bits .or .i64 a b = (BitVec.ofInt 64 a ||| BitVec.ofInt 64 b).toInt := i64_toInt _
theorem bits_and_i64 (a b : Int) : bits .and .i64 a b = (BitVec.ofInt 64 a &&& BitVec.ofInt 64 b).toInt := i64_toInt _
theorem bits_xor_i64 (a b : Int) : bits .xor .i64 a b = (BitVec.ofInt 64 a ^^^ BitVec.ofInt 64 b).toInt := i64_toInt _
theorem ofInt_toInt64 {a : Int} (h0 : -9223372036854775808 ≤ a) (h1 : a < 9223372036854775808) : (BitVec.ofInt 64 a).toInt = a := by
  rw [BitVec.toInt_ofInt, Int.bmod_def]
  omega
theorem i64_and_zero (a : Int) : bits .and .i64 0 a = 0 := by
  rw [bits_and_i64, show BitVec.ofInt 64 0 = 0#64 from rfl, BitVec.zero_and]; rfl
theorem i64_and_ones {a : Int} (h0 : -9223372036854775808 ≤ a) (h1 : a < 9223372036854775808) : bits .and .i64 (-1) a = a := by
  rw [bits_and_i64, show BitVec.ofInt 64 (-1) = BitVec.allOnes 64 by decide, BitVec.allOnes_and, ofInt_toInt64 h0 h1]
theorem i64_xor_zero {a : Int} (h0 : -9223372036854775808 ≤ a) (h1 : a < 9223372036854775808) : bits .xor .i64 a 0 = a := by
  rw [bits_xor_i64, show BitVec.ofInt 64 0 = 0#64 from rfl, BitVec.xor_zero, ofInt_toInt64 h0 h1]
theorem i64_xor_back (a : Int) {b : Int} (h0 : -9223372036854775808 ≤ b) (h1 : b < 9223372036854775808) : bits .xor .i64 a (bits .xor .i64 a b) = b := by
  rw [bits_xor_i64, bits_xor_i64, BitVec.ofInt_toInt, ← BitVec.xor_assoc, BitVec.xor_self, BitVec.zero_xor, ofInt_toInt64 h0 h1]
theorem i64_xor_bound (a b : Int) : -9223372036854775808 ≤ bits .xor .i64 a b ∧ bits .xor .i64 a b < 9223372036854775808 := by
  rw [bits_xor_i64]
  generalize BitVec.ofInt 64 a ^^^ BitVec.ofInt 64 b = X
  have h1 := BitVec.le_toInt X
  have h2 := BitVec.toInt_lt (x := X)
  exact ⟨h1, h2⟩
theorem i64_mask (n : Int) (m : Nat) (hm : m ≤ 62) : bits .and .i64 n (2 ^ m - 1) = n % 2 ^ m := by
  have hp : (2 : Nat) ^ m ≤ 2 ^ 62 := Nat.pow_le_pow_right (by decide) hm
  have hpos : 0 < (2 : Nat) ^ m := Nat.pow_pos (by decide)
  have e : (2 : Int) ^ m = ((2 ^ m : Nat) : Int) := by simp
  have hc : (BitVec.ofInt 64 ((2 : Int) ^ m - 1)).toNat = 2 ^ m - 1 := by
    rw [e, BitVec.toNat_ofInt]
    have : (2 : Nat) ^ 62 = 4611686018427387904 := by decide
    omega
  have key : (BitVec.ofInt 64 n &&& BitVec.ofInt 64 ((2 : Int) ^ m - 1)).toNat = (n % ((2 ^ 64 : Nat) : Int)).toNat % 2 ^ m := by
    rw [BitVec.toNat_and, BitVec.toNat_ofInt, hc, Nat.and_two_pow_sub_one_eq_mod]
  show IntKind.i64.wrap ((BitVec.ofInt 64 n &&& BitVec.ofInt 64 ((2 : Int) ^ m - 1)).toNat : Nat) = n % 2 ^ m
  rw [key, IntKind.wrap_i64, e]
  have h64 : (2 : Nat) ^ 64 = 2 ^ m * 2 ^ (64 - m) := by rw [← Nat.pow_add]; congr 1; omega
  have hr : 0 ≤ n % ((2 ^ 64 : Nat) : Int) := Int.emod_nonneg _ (by decide)
  have h3 : (((n % ((2 ^ 64 : Nat) : Int)).toNat % 2 ^ m : Nat) : Int) = n % ((2 ^ m : Nat) : Int) := by
    rw [Int.natCast_emod, Int.toNat_of_nonneg hr, h64, Int.natCast_mul]
    exact Int.emod_emod_of_dvd _ (Int.dvd_mul_right _ _)
  rw [h3]
  have h4 : 0 ≤ n % ((2 ^ m : Nat) : Int) := Int.emod_nonneg _ (by omega)
  have h5 : n % ((2 ^ m : Nat) : Int) < ((2 ^ m : Nat) : Int) := Int.emod_lt_of_pos _ (by omega)
  have : (2 : Nat) ^ 62 = 4611686018427387904 := by decide
  omega
theorem i64_and1 (n : Int) : bits .and .i64 n 1 = n % 2 := i64_mask n 1 (by decide)
theorem i64_and15 (n : Int) : bits .and .i64 n 32767 = n % 32768 := i64_mask n 15 (by decide)
theorem i64_and16 (n : Int) : bits .and .i64 n 65535 = n % 65536 := i64_mask n 16 (by decide)
theorem ofInt_i64 (a : Nat) (ha : a < 9223372036854775808) : (BitVec.ofInt 64 (a : Int)).toNat = a := by
  rw [BitVec.ofInt_natCast, BitVec.toNat_ofNat]; exact Nat.mod_eq_of_lt (by omega)
theorem i64_or {a b : Int} (h1 : 0 ≤ a) (h2 : a < 9223372036854775808) (h3 : 0 ≤ b) (h4 : b < 9223372036854775808) : bits .or .i64 a b = ((a.toNat ||| b.toNat : Nat) : Int) := by
  obtain ⟨A, rfl⟩ := Int.eq_ofNat_of_zero_le h1
  obtain ⟨B, rfl⟩ := Int.eq_ofNat_of_zero_le h3
  have hx : A ||| B < 2 ^ 63 := Nat.or_lt_two_pow (by omega) (by omega)
  show IntKind.i64.wrap ((BitVec.ofInt 64 (A : Int) ||| BitVec.ofInt 64 (B : Int)).toNat : Int) = _
  rw [BitVec.toNat_or, ofInt_i64 A (by omega), ofInt_i64 B (by omega), IntKind.wrap_i64]
  simp only [Int.toNat_natCast]
  omega
theorem or8_i64 {a b : Int} (h0 : 0 ≤ a) (h1 : a < 256) (h2 : 0 ≤ b) (h3 : b < 256) : bits .or .i64 a (b * 256) = a + b * 256 := by
  rw [i64_or h0 (by omega) (by omega) (by omega), Nat.or_comm, nat_join 8 _ _ (by omega) (by omega)]
  omega
theorem ofInt_u8 (a : Nat) (ha : a < 256) : (BitVec.ofInt 8 (a : Int)).toNat = a := by
  rw [BitVec.ofInt_natCast, BitVec.toNat_ofNat]; exact Nat.mod_eq_of_lt (by omega)
theorem u8_or128 {a b : Int} (h0 : 0 ≤ a) (h1 : a < 128) (h2 : 0 ≤ b) (h3 : b ≤ 1) : bits .or .u8 a (b * 128) = a + b * 128 := by
  obtain ⟨A, rfl⟩ := Int.eq_ofNat_of_zero_le h0
  obtain ⟨B, rfl⟩ := Int.eq_ofNat_of_zero_le h2
  show IntKind.u8.wrap ((BitVec.ofInt 8 (A : Int) ||| BitVec.ofInt 8 ((B : Int) * 128)).toNat : Int) = _
  rw [show ((B : Int) * 128) = ((B * 128 : Nat) : Int) by omega, BitVec.toNat_or, ofInt_u8 A (by omega), ofInt_u8 (B * 128) (by omega), Nat.or_comm, nat_join 7 _ _ (by omega) (by omega), IntKind.wrap_u8]
  omega
theorem and1_u8x {x : Int} (h0 : 0 ≤ x) (h1 : x < 256) : bits .and .u8 x 1 = x % 2 := by
  obtain ⟨A, rfl⟩ := Int.eq_ofNat_of_zero_le h0
  show IntKind.u8.wrap ((BitVec.ofInt 8 (A : Int) &&& BitVec.ofInt 8 1).toNat : Int) = _
  rw [BitVec.toNat_and, BitVec.ofInt_natCast, BitVec.toNat_ofNat, Nat.mod_eq_of_lt (by omega), show (BitVec.ofInt 8 1).toNat = 1 from rfl, nat_mask1, IntKind.wrap_u8]
  omega
theorem byte_shr {x : Int} (r : Nat) (h : r < 8) : Int.fdiv x (2 ^ (min (Int.toNat ((r : Nat) : Int)) IntKind.u8.bits)) = x / 2 ^ r := by
  rw [Int.toNat_natCast, show IntKind.u8.bits = 8 from rfl, Nat.min_eq_left (by omega), Int.fdiv_eq_ediv_of_nonneg _ (Int.le_of_lt (pow_pos' (by decide) _))]
end Go.Bas
