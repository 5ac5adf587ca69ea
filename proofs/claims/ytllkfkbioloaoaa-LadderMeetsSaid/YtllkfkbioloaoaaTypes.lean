/-
  Sizes and zero values of the types that occur.
-/
import Derived.Test.YtllkfkbioloaoaaRows
import Derived.Test.YtllkfkbioloaoaaKit
set_option linter.unusedVariables false
set_option linter.unusedSimpArgs false
namespace Go.Proofs.Ytllkfkbioloaoaa
theorem Try.info5 : (Try.prog.info? 5).map (fun i => (i.zero, i.size, i.bytes)) = some (some (.int .u8 0), 1, 1) := by kernel_rfl
theorem Try.size5 : (Try.prog.info? 5).map (·.size) = some 1 := by kernel_rfl
theorem Try.info3 : (Try.prog.info? 3).map (fun i => (i.zero, i.size, i.bytes)) = some (some (.int .i64 0), 1, 8) := by kernel_rfl
theorem Try.size3 : (Try.prog.info? 3).map (·.size) = some 1 := by kernel_rfl
theorem Try.info168 : (Try.prog.info? 168).map (fun i => (i.zero, i.size, i.bytes)) = some (some (.int .u32 0), 1, 4) := by kernel_rfl
theorem Try.size168 : (Try.prog.info? 168).map (·.size) = some 1 := by kernel_rfl
theorem Try.info2 : (Try.prog.info? 2).map (fun i => (i.zero, i.size, i.bytes)) = some (some (.int .i64 0), 1, 8) := by kernel_rfl
theorem Try.size2 : (Try.prog.info? 2).map (·.size) = some 1 := by kernel_rfl
theorem Try.size88 : (Try.prog.info? 88).map (·.size) = some 32 := by kernel_rfl
theorem Try.size101 : (Try.prog.info? 101).map (·.size) = some 64 := by kernel_rfl
theorem Try.size139 : (Try.prog.info? 139).map (·.size) = some 16 := by kernel_rfl
theorem Try.size156 : (Try.prog.info? 156).map (·.size) = some 31 := by kernel_rfl
theorem Try.size141 : (Try.prog.info? 141).map (·.size) = some 16 := by kernel_rfl
end Go.Proofs.Ytllkfkbioloaoaa
