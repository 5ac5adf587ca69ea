/-
  Part 1 of the texts that the proof of SignVerifies rests on, one after the other. Conditions: named in each theorem.
-/
import Derived.BigQuiet
import Derived.Deep.QuietTactic
import Derived.Lib.Hide
import Derived.Test.YtdhejcaapdhhfaaKit
import Derived.Test.YtdhejcaapdhhfaaRows
import Derived.WalkKit
import Derived.WalkLawsBesides
import Derived.WalkSmall
import Derived.WalkSpells
set_option linter.unusedVariables false
set_option linter.unusedSimpArgs false
namespace Go.Proofs.Ytdhejcaapdhhfaa
theorem Try.info5 : (Try.prog.info? 5).map (fun i => (i.zero, i.size, i.bytes)) = some (some (.int .u8 0), 1, 1) := by kernel_rfl
theorem Try.size5 : (Try.prog.info? 5).map (·.size) = some 1 := by kernel_rfl
theorem Try.info3 : (Try.prog.info? 3).map (fun i => (i.zero, i.size, i.bytes)) = some (some (.int .i64 0), 1, 8) := by kernel_rfl
theorem Try.size102 : (Try.prog.info? 102).map (·.size) = some 1 := by kernel_rfl
theorem Try.info114 : (Try.prog.info? 114).map (fun i => (i.zero, i.size, i.bytes)) = some (some (.int .u64 0), 1, 8) := by kernel_rfl
theorem Try.size114 : (Try.prog.info? 114).map (·.size) = some 1 := by kernel_rfl
theorem Try.size2 : (Try.prog.info? 2).map (·.size) = some 1 := by kernel_rfl
theorem Try.size22 : (Try.prog.info? 22).map (·.size) = some 32 := by kernel_rfl
theorem Try.size104 : (Try.prog.info? 104).map (·.size) = some 17 := by kernel_rfl
theorem Try.size154 : (Try.prog.info? 154).map (·.size) = some 34 := by kernel_rfl
theorem Try.size60 : (Try.prog.info? 60).map (·.size) = some 64 := by kernel_rfl
theorem Try.size24 : (Try.prog.info? 24).map (·.size) = some 16 := by kernel_rfl
theorem Try.size26 : (Try.prog.info? 26).map (·.size) = some 16 := by kernel_rfl
end Go.Proofs.Ytdhejcaapdhhfaa
