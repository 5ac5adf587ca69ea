/-
  bastilleref01.Same: what it answers of two lists of bytes that can be read. Conditions: the lists can be read.
-/
import Derived.Test.YtlmdgmgbijfaoaaRows
import Derived.Test.YtlmdgmgbijfaoaaKit
set_option linter.unusedVariables false
set_option linter.unusedSimpArgs false
namespace Go.Proofs.Ytlmdgmgbijfaoaa
open Go.RowKit Go.Bas

set_option maxHeartbeats 400000 in
theorem same_len (va vb : Value) (n m : Nat) (f g : Nat → Int) (w : World) (ha : Rd .u8 w va n f) (hb : Rd .u8 w vb m g) (h : n ≠ m) :
    Calls Try.prog 24 #[va, vb] w fun e w' => e = .returned (.bool false) ∧ Below w.heap.size w w' := by
  obtain ⟨a1, c1, rfl, l1, m1, z1, h1⟩ := ha
  obtain ⟨a2, c2, rfl, l2, m2, z2, h2⟩ := hb
  clear h1 h2 z1 z2
  have hl' : ((n:Int) != (m : Int)) = true := by simp; omega
  go_enter Try.func24, Try.ntmps24
  go_wp2
  go_ret
  exact ⟨rfl, Below.refl _ _⟩

set_option maxHeartbeats 400000 in
theorem same_yes (va vb : Value) (n : Nat) (f g : Nat → Int) (w : World) (ha : Rd .u8 w va n f) (hb : Rd .u8 w vb n g) (h : ∀ i, i < n → f i = g i) :
    Calls Try.prog 24 #[va, vb] w fun e w' => e = .returned (.bool true) ∧ Below w.heap.size w w' := by
  obtain ⟨a1, c1, rfl, l1, m1, z1, h1⟩ := ha
  obtain ⟨a2, c2, rfl, l2, m2, z2, h2⟩ := hb
  have H := Lib.hid h
  have H1 := Lib.hid h1
  have H2 := Lib.hid h2
  clear h1 h2 z1 z2 h
  go_enter Try.func24, Try.ntmps24
  go_wp2
  go_loopw [5] (fun i wr => ∃ k : Nat, k ≤ n ∧ i = .int .i64 k ∧ Below w.heap.size w wr) (fun i _ => n - (intOf i).toNat)
  case atStart => exact ⟨0, Nat.zero_le _, rfl, Below.refl _ _⟩
  case round =>
    obtain ⟨k, hk, rfl, hnx⟩ := hrel
    by_cases hlt : k < n
    · obtain ⟨b1, o1, rfl, s1, e1⟩ := H1.out (by omega)
      obtain ⟨b2, o2, rfl, s2, e2⟩ := H2.out (by omega)
      replace e1 := (hnx.cell s1).trans (e1 k hlt)
      replace e2 := (hnx.cell s2).trans (e2 k hlt)
      have hb : (f k != g k) = false := by simpa using H.out k hlt
      go_wp2
      go_quiet (fail)
      go_wp2
      go_roundw
      case rel => exact ⟨k + 1, by omega, by go_num, below_drewN hnx _⟩
      case measure => simp [intOf] <;> omega
    · go_wp2
      go_ret
      exact ⟨rfl, hnx⟩

set_option maxHeartbeats 400000 in
theorem same_no (va vb : Value) (n : Nat) (f g : Nat → Int) (w : World) (ha : Rd .u8 w va n f) (hb : Rd .u8 w vb n g) (j : Nat) (hj : j < n) (h : f j ≠ g j) :
    Calls Try.prog 24 #[va, vb] w fun e w' => e = .returned (.bool false) ∧ Below w.heap.size w w' := by
  obtain ⟨a1, c1, rfl, l1, m1, z1, h1⟩ := ha
  obtain ⟨a2, c2, rfl, l2, m2, z2, h2⟩ := hb
  have H := Lib.hid h
  have H1 := Lib.hid h1
  have H2 := Lib.hid h2
  clear h1 h2 z1 z2 h
  go_enter Try.func24, Try.ntmps24
  go_wp2
  go_loopw [5] (fun i wr => ∃ k : Nat, k ≤ j ∧ i = .int .i64 k ∧ Below w.heap.size w wr) (fun i _ => n - (intOf i).toNat)
  case atStart => exact ⟨0, Nat.zero_le _, rfl, Below.refl _ _⟩
  case round =>
    obtain ⟨k, hk, rfl, hnx⟩ := hrel
    have hlt : k < n := by omega
    obtain ⟨b1, o1, rfl, s1, e1⟩ := H1.out (by omega)
    obtain ⟨b2, o2, rfl, s2, e2⟩ := H2.out (by omega)
    replace e1 := (hnx.cell s1).trans (e1 k hlt)
    replace e2 := (hnx.cell s2).trans (e2 k hlt)
    by_cases hfg : f k = g k
    · have hb : (f k != g k) = false := by simpa using hfg
      have hkj : k ≠ j := fun e => H.out (e ▸ hfg)
      clear hfg
      go_wp2
      go_quiet (fail)
      go_wp2
      go_roundw
      case rel => exact ⟨k + 1, by omega, by go_num, below_drewN hnx _⟩
      case measure => simp [intOf] <;> omega
    · have hb : (f k != g k) = true := by simpa using hfg
      clear hfg
      go_wp2
      go_quiet (fail)
      go_wp2
      go_ret
      exact ⟨rfl, below_drewN hnx _⟩
end Go.Proofs.Ytlmdgmgbijfaoaa
