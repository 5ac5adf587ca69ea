/-
  Part 1 of the texts that the proof of PointOf rests on, one after the other. Conditions: named in each theorem.
-/
import Derived.Test.YtdhejcaapdhhfaaRows
import Derived.Test.YtdhejcaapdhhfaaKit
set_option linter.unusedVariables false
set_option linter.unusedSimpArgs false
namespace Go.Proofs.Ytdhejcaapdhhfaa
theorem Try.info5 : (Try.prog.info? 5).map (fun i => (i.zero, i.size, i.bytes)) = some (some (.int .u8 0), 1, 1) := by kernel_rfl
theorem Try.size5 : (Try.prog.info? 5).map (·.size) = some 1 := by kernel_rfl
theorem Try.info3 : (Try.prog.info? 3).map (fun i => (i.zero, i.size, i.bytes)) = some (some (.int .i64 0), 1, 8) := by kernel_rfl
theorem Try.size3 : (Try.prog.info? 3).map (·.size) = some 1 := by kernel_rfl
theorem Try.info102 : (Try.prog.info? 102).map (fun i => (i.zero, i.size, i.bytes)) = some (some (.int .u32 0), 1, 4) := by kernel_rfl
theorem Try.size102 : (Try.prog.info? 102).map (·.size) = some 1 := by kernel_rfl
theorem Try.info114 : (Try.prog.info? 114).map (fun i => (i.zero, i.size, i.bytes)) = some (some (.int .u64 0), 1, 8) := by kernel_rfl
theorem Try.size114 : (Try.prog.info? 114).map (·.size) = some 1 := by kernel_rfl
theorem Try.info2 : (Try.prog.info? 2).map (fun i => (i.zero, i.size, i.bytes)) = some (some (.int .i64 0), 1, 8) := by kernel_rfl
theorem Try.size2 : (Try.prog.info? 2).map (·.size) = some 1 := by kernel_rfl
theorem Try.size22 : (Try.prog.info? 22).map (·.size) = some 32 := by kernel_rfl
theorem Try.size104 : (Try.prog.info? 104).map (·.size) = some 17 := by kernel_rfl
theorem Try.size154 : (Try.prog.info? 154).map (·.size) = some 34 := by kernel_rfl
theorem Try.size155 : (Try.prog.info? 155).map (·.size) = some 68 := by kernel_rfl
theorem Try.size95 : (Try.prog.info? 95).map (·.size) = some 12 := by kernel_rfl
theorem Try.size159 : (Try.prog.info? 159).map (·.size) = some 16 := by kernel_rfl
theorem Try.size60 : (Try.prog.info? 60).map (·.size) = some 64 := by kernel_rfl
theorem Try.size24 : (Try.prog.info? 24).map (·.size) = some 16 := by kernel_rfl
theorem Try.size96 : (Try.prog.info? 96).map (·.size) = some 31 := by kernel_rfl
theorem Try.size26 : (Try.prog.info? 26).map (·.size) = some 16 := by kernel_rfl
end Go.Proofs.Ytdhejcaapdhhfaa
