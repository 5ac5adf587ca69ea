/-
  What a disk is, in numbers: sectors kept, writes that wait, the fuse. No program in sight.
-/
import Derived.Test.YtlmdgmgbijfaoaaKit
set_option linter.unusedVariables false
set_option linter.unusedSimpArgs false
namespace Go.Bas
/-- sector p of K is b. -/
def putS (K : Nat → Nat → Int) (p : Nat) (b : Nat → Int) : Nat → Nat → Int := fun i => if i = p then b else K i
theorem putS_same (K : Nat → Nat → Int) (p : Nat) (b : Nat → Int) : putS K p b p = b := if_pos rfl
theorem putS_other {K : Nat → Nat → Int} {p i : Nat} {b : Nat → Int} (h : i ≠ p) : putS K p b i = K i := if_neg h
/-- the sectors with the first j writes done. -/
def nowR (K : Nat → Nat → Int) (ps : Nat → Nat) (bs : Nat → Nat → Int) : Nat → Nat → Nat → Int
  | 0 => K
  | j + 1 => putS (nowR K ps bs j) (ps j) (bs j)
/-- the first c bytes of b over those of a. -/
def mixB (a b : Nat → Int) (c : Int) : Nat → Int := fun k => if (k : Int) < c then b k else a k
/-- what is chosen of write j. -/
def choR (m : Nat) (c : Nat → Int) (j : Nat) : Int := if j < m then c j else 0
/-- the sectors with the chosen parts of the first j writes done. -/
def crR (m : Nat) (c : Nat → Int) (K : Nat → Nat → Int) (ps : Nat → Nat) (bs : Nat → Nat → Int) : Nat → Nat → Nat → Int
  | 0 => K
  | j + 1 => putS (crR m c K ps bs j) (ps j) (mixB (crR m c K ps bs j (ps j)) (bs j) (choR m c j))
/-- a disk. -/
structure Dsk where
  n : Nat
  K : Nat → Nat → Int
  m : Nat
  ps : Nat → Nat
  bs : Nat → Nat → Int
  fuse : Int
  off : Bool
  lives : Int
/-- the sectors as they are read. -/
def Dsk.now (d : Dsk) : Nat → Nat → Int := nowR d.K d.ps d.bs d.m
/-- a disk of n noughts. -/
def dskNew (n : Nat) : Dsk := ⟨n, fun _ _ => 0, 0, fun _ => 0, fun _ _ => 0, -1, false, 0⟩
def Dsk.may (d : Dsk) (n : Int) : Int := if d.off = true then 30 else if n < 0 ∨ (d.n : Int) ≤ n then 31 else 0
def Dsk.burn (d : Dsk) : Dsk := if d.fuse < 0 then { d with off := false } else { d with off := d.fuse == 0, fuse := d.fuse - 1 }
/-- one more write waits. -/
def Dsk.add (d : Dsk) (p : Nat) (b : Nat → Int) : Dsk := { d with m := d.m + 1, ps := fun i => if i = d.m then p else d.ps i, bs := fun i => if i = d.m then b else d.bs i }
def powE (off : Bool) : Int := if off = true then 30 else 0
def Dsk.write (d : Dsk) (n : Int) (l : Nat) (b : Nat → Int) : Dsk × Int :=
  if d.may n ≠ 0 then (d, d.may n) else if l ≠ 64 then (d, 2) else ((d.add n.toNat b).burn, powE (d.add n.toNat b).burn.off)
def Dsk.flush (d : Dsk) : Dsk × Int :=
  if d.off = true then (d, 30) else if d.burn.off = true then (d.burn, 30) else ({ d.burn with K := d.now, m := 0 }, 0)
def Dsk.fused (d : Dsk) (n : Int) : Dsk := { d with fuse := if n < 0 then -1 else n }
def Dsk.crash (d : Dsk) (m : Nat) (c : Nat → Int) : Dsk :=
  { d with K := crR m c d.K d.ps d.bs d.m, m := 0, fuse := -1, off := false, lives := RowKit.wrap64 (d.lives + 1) }
theorem wrap64_bound (x : Int) : -9223372036854775808 ≤ RowKit.wrap64 x ∧ RowKit.wrap64 x ≤ 9223372036854775807 := by
  unfold RowKit.wrap64
  omega
theorem nowR_congr {K : Nat → Nat → Int} {ps ps' : Nat → Nat} {bs bs' : Nat → Nat → Int} : ∀ j, (∀ i, i < j → ps i = ps' i ∧ bs i = bs' i) → nowR K ps bs j = nowR K ps' bs' j
  | 0, _ => rfl
  | j + 1, h => by rw [nowR, nowR, nowR_congr j fun i hi => h i (by omega), (h j (by omega)).1, (h j (by omega)).2]
theorem Dsk.add_now (d : Dsk) (p : Nat) (b : Nat → Int) : (d.add p b).now = putS d.now p b := by
  unfold Dsk.now
  show nowR d.K (d.add p b).ps (d.add p b).bs (d.m + 1) = _
  rw [nowR]
  have h1 : (d.add p b).ps d.m = p := if_pos rfl
  have h2 : (d.add p b).bs d.m = b := if_pos rfl
  rw [h1, h2]
  congr 1
  exact nowR_congr _ fun i hi => ⟨if_neg (by omega), if_neg (by omega)⟩
theorem mixB_zero (a b : Nat → Int) : mixB a b 0 = a := by
  funext k
  unfold mixB
  rw [if_neg (by omega)]
theorem putS_self (K : Nat → Nat → Int) (p : Nat) : putS K p (K p) = K := by
  funext i
  unfold putS
  split
  · rename_i h; rw [h]
  · rfl
theorem crR_past (m : Nat) (c : Nat → Int) (K : Nat → Nat → Int) (ps : Nat → Nat) (bs : Nat → Nat → Int) (j : Nat) (hj : m ≤ j) : ∀ d, crR m c K ps bs (j + d) = crR m c K ps bs j := by
  intro d
  induction d with
  | zero => rfl
  | succ d ih =>
    rw [← Nat.add_assoc, crR]
    have : choR m c (j + d) = 0 := if_neg (by omega)
    rw [this, mixB_zero, putS_self, ih]
end Go.Bas
