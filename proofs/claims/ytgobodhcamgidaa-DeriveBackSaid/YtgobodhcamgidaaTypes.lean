/-
  Sizes and zero values of the types that occur.
-/
import Derived.Test.YtgobodhcamgidaaRows
import Derived.Test.YtgobodhcamgidaaKit
set_option linter.unusedVariables false
set_option linter.unusedSimpArgs false
namespace Go.Proofs.Ytgobodhcamgidaa
theorem Try.info5 : (Try.prog.info? 5).map (fun i => (i.zero, i.size, i.bytes)) = some (some (.int .u8 0), 1, 1) := by kernel_rfl
theorem Try.size5 : (Try.prog.info? 5).map (·.size) = some 1 := by kernel_rfl
theorem Try.info3 : (Try.prog.info? 3).map (fun i => (i.zero, i.size, i.bytes)) = some (some (.int .i64 0), 1, 8) := by kernel_rfl
theorem Try.size3 : (Try.prog.info? 3).map (·.size) = some 1 := by kernel_rfl
theorem Try.info97 : (Try.prog.info? 97).map (fun i => (i.zero, i.size, i.bytes)) = some (some (.int .u32 0), 1, 4) := by kernel_rfl
theorem Try.size97 : (Try.prog.info? 97).map (·.size) = some 1 := by kernel_rfl
theorem Try.info36 : (Try.prog.info? 36).map (fun i => (i.zero, i.size, i.bytes)) = some (some (.int .u64 0), 1, 8) := by kernel_rfl
theorem Try.size36 : (Try.prog.info? 36).map (·.size) = some 1 := by kernel_rfl
theorem Try.info2 : (Try.prog.info? 2).map (fun i => (i.zero, i.size, i.bytes)) = some (some (.int .i64 0), 1, 8) := by kernel_rfl
theorem Try.size2 : (Try.prog.info? 2).map (·.size) = some 1 := by kernel_rfl
theorem Try.size26 : (Try.prog.info? 26).map (·.size) = some 32 := by kernel_rfl
theorem Try.size64 : (Try.prog.info? 64).map (·.size) = some 12 := by kernel_rfl
theorem Try.size113 : (Try.prog.info? 113).map (·.size) = some 16 := by kernel_rfl
theorem Try.size24 : (Try.prog.info? 24).map (·.size) = some 64 := by kernel_rfl
end Go.Proofs.Ytgobodhcamgidaa
