/-
  Part 1 of the texts that the proof of SignSigns rests on, one after the other. Conditions: named in each theorem.
-/
import Derived.BigQuiet
import Derived.Deep.QuietTactic
import Derived.Lib.Hide
import Derived.Test.YtdhejcaapdhhfaaGreatKit
import Derived.Test.YtdhejcaapdhhfaaGreatRows
import Derived.WalkKit
import Derived.WalkLawsBesides
import Derived.WalkSmall
import Derived.WalkSpells
set_option linter.unusedVariables false
set_option linter.unusedSimpArgs false
namespace Go.Proofs.YtdhejcaapdhhfaaGreat
theorem Tryz.info5 : (Tryz.prog.info? 5).map (fun i => (i.zero, i.size, i.bytes)) = some (some (.int .u8 0), 1, 1) := by kernel_rfl
theorem Tryz.size5 : (Tryz.prog.info? 5).map (·.size) = some 1 := by kernel_rfl
theorem Tryz.info3 : (Tryz.prog.info? 3).map (fun i => (i.zero, i.size, i.bytes)) = some (some (.int .i64 0), 1, 8) := by kernel_rfl
theorem Tryz.size120 : (Tryz.prog.info? 120).map (·.size) = some 1 := by kernel_rfl
theorem Tryz.info96 : (Tryz.prog.info? 96).map (fun i => (i.zero, i.size, i.bytes)) = some (some (.int .u64 0), 1, 8) := by kernel_rfl
theorem Tryz.size96 : (Tryz.prog.info? 96).map (·.size) = some 1 := by kernel_rfl
theorem Tryz.size2 : (Tryz.prog.info? 2).map (·.size) = some 1 := by kernel_rfl
theorem Tryz.size22 : (Tryz.prog.info? 22).map (·.size) = some 32 := by kernel_rfl
theorem Tryz.size129 : (Tryz.prog.info? 129).map (·.size) = some 17 := by kernel_rfl
theorem Tryz.size141 : (Tryz.prog.info? 141).map (·.size) = some 34 := by kernel_rfl
theorem Tryz.size29 : (Tryz.prog.info? 29).map (·.size) = some 64 := by kernel_rfl
theorem Tryz.size51 : (Tryz.prog.info? 51).map (·.size) = some 16 := by kernel_rfl
theorem Tryz.size53 : (Tryz.prog.info? 53).map (·.size) = some 16 := by kernel_rfl
end Go.Proofs.YtdhejcaapdhhfaaGreat

namespace Go.Proofs.YtdhejcaapdhhfaaGreat
open Go.RowKit Go.Bas

set_option maxHeartbeats 400000 in
theorem same_yes (va vb : Value) (n : Nat) (f g : Nat → Int) (w : World) (ha : Rd .u8 w va n f) (hb : Rd .u8 w vb n g) (h : ∀ i, i < n → f i = g i) :
    Calls Tryz.prog 13 #[va, vb] w fun e w' => e = .returned (.bool true) ∧ Below w.heap.size w w' := by
  obtain ⟨a1, c1, rfl, l1, m1, z1, h1⟩ := ha
  obtain ⟨a2, c2, rfl, l2, m2, z2, h2⟩ := hb
  have H := Lib.hid h
  have H1 := Lib.hid h1
  have H2 := Lib.hid h2
  clear h1 h2 z1 z2 h
  go_enter Tryz.func13, Tryz.ntmps13
  go_wp2
  go_loopw [5] (fun i wr => ∃ k : Nat, k ≤ n ∧ i = .int .i64 k ∧ Below w.heap.size w wr) (fun i _ => n - (intOf i).toNat)
  case atStart => exact ⟨0, Nat.zero_le _, rfl, Below.refl _ _⟩
  case round =>
    obtain ⟨k, hk, rfl, hnx⟩ := hrel
    by_cases hlt : k < n
    · obtain ⟨b1, o1, rfl, s1, e1⟩ := H1.out (by omega)
      obtain ⟨b2, o2, rfl, s2, e2⟩ := H2.out (by omega)
      replace e1 := (hnx.cell s1).trans (e1 k hlt)
      replace e2 := (hnx.cell s2).trans (e2 k hlt)
      have hb : (f k != g k) = false := by simpa using H.out k hlt
      go_wp2
      go_quiet (fail)
      go_wp2
      go_roundw
      case rel => exact ⟨k + 1, by omega, by go_num, below_drewN hnx _⟩
      case measure => simp [intOf] <;> omega
    · go_wp2
      go_ret
      exact ⟨rfl, hnx⟩

end Go.Proofs.YtdhejcaapdhhfaaGreat
