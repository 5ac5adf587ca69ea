/-
  The words of a block of the key stream: quarter rounds, rounds, the state at first. No program in sight.
-/
import Derived.Test.YtgobodhcamgidaaNum
import Derived.Laws.BitsAllLaws
set_option linter.unusedVariables false
set_option linter.unusedSimpArgs false
namespace Go.Bas
open Go.RowKit
/-- a word turned left. -/
def rot (x : Int) (k : Nat) : Int := x * 2 ^ k % 4294967296 + x / 2 ^ (32 - k)
theorem rot_bound {x : Int} (h0 : 0 ≤ x) (h1 : x < 4294967296) {k : Nat} (hk : k ≤ 32) : 0 ≤ rot x k ∧ rot x k < 4294967296 := by
  unfold rot
  have e : (4294967296 : Int) = 2 ^ k * 2 ^ (32 - k) := by rw [← Int.pow_add, show k + (32 - k) = 32 by omega]; rfl
  have hp : (0 : Int) < 2 ^ k := Int.pow_pos (by decide)
  have hq : (0 : Int) < 2 ^ (32 - k) := Int.pow_pos (by decide)
  rw [e] at h1 ⊢
  generalize (2 : Int) ^ k = p at *
  generalize (2 : Int) ^ (32 - k) = q at *
  rw [Int.mul_comm x p, Int.mul_emod_mul_of_pos _ _ hp]
  have h2 := Int.emod_nonneg x (show q ≠ 0 by omega)
  have h3 := Int.emod_lt_of_pos x hq
  have h4 := Int.ediv_nonneg h0 (Int.le_of_lt hq)
  have h5 : x / q < p := Int.ediv_lt_of_lt_mul hq h1
  have h6 : p * (x % q) ≤ p * (q - 1) := Int.mul_le_mul_of_nonneg_left (by omega) (Int.le_of_lt hp)
  have h7 := Int.mul_nonneg (Int.le_of_lt hp) h2
  rw [Int.mul_sub, Int.mul_one] at h6
  omega
theorem rot_or {x : Int} (h0 : 0 ≤ x) (h1 : x < 4294967296) {k : Nat} (hk : k ≤ 32) : bits .or .u32 (x * 2 ^ k % 4294967296) (x / 2 ^ (32 - k)) = rot x k := by
  have hb := rot_bound h0 h1 hk
  unfold rot at hb ⊢
  have e : (4294967296 : Int) = 2 ^ k * 2 ^ (32 - k) := by rw [← Int.pow_add, show k + (32 - k) = 32 by omega]; rfl
  have hp : (0 : Int) < 2 ^ k := Int.pow_pos (by decide)
  have hq : (0 : Int) < 2 ^ (32 - k) := Int.pow_pos (by decide)
  have h5 : x / 2 ^ (32 - k) < 2 ^ k := Int.ediv_lt_of_lt_mul hq (by rw [← e]; exact h1)
  have h4 := Int.ediv_nonneg h0 (Int.le_of_lt hq)
  have e2 : x * 2 ^ k % 4294967296 = (x % 2 ^ (32 - k)) * 2 ^ k := by rw [e, Int.mul_comm x, Int.mul_emod_mul_of_pos _ _ hp, Int.mul_comm]
  have h2 := Int.emod_nonneg x (show (2 : Int) ^ (32 - k) ≠ 0 by omega)
  have h8 := Int.emod_nonneg (x * 2 ^ k) (show (4294967296 : Int) ≠ 0 by decide)
  have h9 := Int.emod_lt_of_pos (x * 2 ^ k) (show (0 : Int) < 4294967296 by decide)
  rw [u32_or _ _ h8 h9 h4 (by omega)]
  rw [e2] at h8 ⊢
  generalize x % 2 ^ (32 - k) = u at *
  generalize x / 2 ^ (32 - k) = v at *
  obtain ⟨A, rfl⟩ := Int.eq_ofNat_of_zero_le h2
  obtain ⟨B, rfl⟩ := Int.eq_ofNat_of_zero_le h4
  have ep : (2 : Int) ^ k = ((2 ^ k : Nat) : Int) := by simp
  rw [ep] at h5 ⊢
  have h5' : B < 2 ^ k := by exact_mod_cast h5
  rw [← Int.natCast_mul]
  simp only [Int.toNat_natCast]
  have : A * 2 ^ k ||| B = A * 2 ^ k + B := by rw [Nat.mul_comm, ← Nat.two_pow_add_eq_or_of_lt h5']
  rw [this, Int.natCast_add]
/-- two words, bit by bit. -/
def xr (a b : Int) : Int := bits .xor .u32 a b
theorem xr_bound (a b : Int) : 0 ≤ xr a b ∧ xr a b < 4294967296 := by
  unfold xr
  show 0 ≤ IntKind.u32.wrap _ ∧ IntKind.u32.wrap _ < 4294967296
  rw [IntKind.wrap_u32']
  omega
def qD1 (a b d : Int) : Int := rot (xr d ((a + b) % 4294967296)) 16
def qC1 (a b c d : Int) : Int := (c + qD1 a b d) % 4294967296
def qB1 (a b c d : Int) : Int := rot (xr b (qC1 a b c d)) 12
def qA (a b c d : Int) : Int := ((a + b) % 4294967296 + qB1 a b c d) % 4294967296
def qD (a b c d : Int) : Int := rot (xr (qD1 a b d) (qA a b c d)) 8
def qC (a b c d : Int) : Int := (qC1 a b c d + qD a b c d) % 4294967296
def qB (a b c d : Int) : Int := rot (xr (qB1 a b c d) (qC a b c d)) 7
theorem q_bound (a b c d : Int) : (0 ≤ qA a b c d ∧ qA a b c d < 4294967296) ∧ (0 ≤ qB a b c d ∧ qB a b c d < 4294967296) ∧ (0 ≤ qC a b c d ∧ qC a b c d < 4294967296) ∧ (0 ≤ qD a b c d ∧ qD a b c d < 4294967296) := by
  refine ⟨?_, ?_, ?_, ?_⟩
  · unfold qA; omega
  · exact rot_bound (xr_bound _ _).1 (xr_bound _ _).2 (by decide)
  · unfold qC; omega
  · exact rot_bound (xr_bound _ _).1 (xr_bound _ _).2 (by decide)
/-- a quarter round of the words at four places. -/
def qrF (S : Nat → Int) (a b c d : Nat) : Nat → Int := fun i =>
  if i = a then qA (S a) (S b) (S c) (S d) else if i = b then qB (S a) (S b) (S c) (S d) else if i = c then qC (S a) (S b) (S c) (S d) else if i = d then qD (S a) (S b) (S c) (S d) else S i
theorem qrF_bound {S : Nat → Int} {n : Nat} (h : ∀ i, i < n → 0 ≤ S i ∧ S i < 4294967296) (a b c d : Nat) : ∀ i, i < n → 0 ≤ qrF S a b c d i ∧ qrF S a b c d i < 4294967296 := by
  intro i hi
  obtain ⟨h1, h2, h3, h4⟩ := q_bound (S a) (S b) (S c) (S d)
  unfold qrF
  split
  · exact h1
  · split
    · exact h2
    · split
      · exact h3
      · split
        · exact h4
        · exact h i hi
/-- quarter round j of a double round: columns, and then diagonals. -/
def qstep (S : Nat → Int) (j : Nat) : Nat → Int := qrF S (j % 4) (4 + (j % 4 + j / 4) % 4) (8 + (j % 4 + 2 * (j / 4)) % 4) (12 + (j % 4 + 3 * (j / 4)) % 4)
def drK (S : Nat → Int) : Nat → Nat → Int
  | 0 => S
  | j + 1 => qstep (drK S j) j
def rds (S : Nat → Int) : Nat → Nat → Int
  | 0 => S
  | r + 1 => drK (rds S r) 8
theorem drK_bound {S : Nat → Int} (h : ∀ i, i < 16 → 0 ≤ S i ∧ S i < 4294967296) : ∀ j i, i < 16 → 0 ≤ drK S j i ∧ drK S j i < 4294967296
  | 0 => h
  | j + 1 => qrF_bound (drK_bound h j) _ _ _ _
theorem rds_bound {S : Nat → Int} (h : ∀ i, i < 16 → 0 ≤ S i ∧ S i < 4294967296) : ∀ r i, i < 16 → 0 ≤ rds S r i ∧ rds S r i < 4294967296
  | 0 => h
  | r + 1 => drK_bound (rds_bound h r) 8
/-- four bytes, the lowest first. -/
def wd (f : Nat → Int) (j : Nat) : Int := f (4 * j) + 256 * f (4 * j + 1) + 65536 * f (4 * j + 2) + 16777216 * f (4 * j + 3)
/-- the words at first. -/
def ini (key nonce : Nat → Int) (count : Int) : Nat → Int := fun i =>
  if i = 0 then 1634760805 else if i = 1 then 857760878 else if i = 2 then 2036477234 else if i = 3 then 1797285236 else if i < 12 then wd key (i - 4) else if i = 12 then count else wd nonce (i - 13)
theorem wd_bound {f : Nat → Int} {n : Nat} (h : ∀ i, i < 4 * n → 0 ≤ f i ∧ f i < 256) (j : Nat) (hj : j < n) : 0 ≤ wd f j ∧ wd f j < 4294967296 := by
  have h0 := h (4 * j) (by omega)
  have h1 := h (4 * j + 1) (by omega)
  have h2 := h (4 * j + 2) (by omega)
  have h3 := h (4 * j + 3) (by omega)
  unfold wd; omega
theorem ini_bound {key nonce : Nat → Int} {count : Int} (hk : ∀ i, i < 32 → 0 ≤ key i ∧ key i < 256) (hn : ∀ i, i < 12 → 0 ≤ nonce i ∧ nonce i < 256) (hc : 0 ≤ count ∧ count < 4294967296) :
    ∀ i, i < 16 → 0 ≤ ini key nonce count i ∧ ini key nonce count i < 4294967296 := by
  intro i hi
  unfold ini
  split
  · decide
  · split
    · decide
    · split
      · decide
      · split
        · decide
        · split
          · exact wd_bound (n := 8) (fun i h => hk i (by omega)) (i - 4) (by omega)
          · split
            · exact hc
            · exact wd_bound (n := 3) (fun i h => hn i (by omega)) (i - 13) (by omega)
/-- the words of a block. -/
def blk32 (key nonce : Nat → Int) (count : Int) : Nat → Int := fun i => (rds (ini key nonce count) 10 i + ini key nonce count i) % 4294967296
/-- the bytes of a block. -/
def blkB (key nonce : Nat → Int) (count : Int) : Nat → Int := fun i => blk32 key nonce count (i / 4) / 256 ^ (i % 4) % 256
theorem blkB_bound (key nonce : Nat → Int) (count : Int) (i : Nat) : 0 ≤ blkB key nonce count i ∧ blkB key nonce count i < 256 := by unfold blkB; omega
end Go.Bas
