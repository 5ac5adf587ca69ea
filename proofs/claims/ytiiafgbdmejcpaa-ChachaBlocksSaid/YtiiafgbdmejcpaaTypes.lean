/-
  Sizes and zero values of the types that occur.
-/
import Derived.Test.YtiiafgbdmejcpaaRows
import Derived.Test.YtiiafgbdmejcpaaKit
namespace Go.Proofs.Ytiiafgbdmejcpaa
theorem Try.info5 : (Try.prog.info? 5).map (fun i => (i.zero, i.size, i.bytes)) = some (some (.int .u8 0), 1, 1) := by kernel_rfl
theorem Try.size5 : (Try.prog.info? 5).map (·.size) = some 1 := by kernel_rfl
theorem Try.info3 : (Try.prog.info? 3).map (fun i => (i.zero, i.size, i.bytes)) = some (some (.int .i64 0), 1, 8) := by kernel_rfl
theorem Try.size3 : (Try.prog.info? 3).map (·.size) = some 1 := by kernel_rfl
theorem Try.info40 : (Try.prog.info? 40).map (fun i => (i.zero, i.size, i.bytes)) = some (some (.int .u32 0), 1, 4) := by kernel_rfl
theorem Try.size40 : (Try.prog.info? 40).map (·.size) = some 1 := by kernel_rfl
theorem Try.info72 : (Try.prog.info? 72).map (fun i => (i.zero, i.size, i.bytes)) = some (some (.int .u64 0), 1, 8) := by kernel_rfl
theorem Try.size72 : (Try.prog.info? 72).map (·.size) = some 1 := by kernel_rfl
theorem Try.info2 : (Try.prog.info? 2).map (fun i => (i.zero, i.size, i.bytes)) = some (some (.int .i64 0), 1, 8) := by kernel_rfl
theorem Try.size2 : (Try.prog.info? 2).map (·.size) = some 1 := by kernel_rfl
theorem Try.size38 : (Try.prog.info? 38).map (·.size) = some 32 := by kernel_rfl
theorem Try.size91 : (Try.prog.info? 91).map (·.size) = some 17 := by kernel_rfl
theorem Try.size98 : (Try.prog.info? 98).map (·.size) = some 34 := by kernel_rfl
theorem Try.size99 : (Try.prog.info? 99).map (·.size) = some 68 := by kernel_rfl
theorem Try.size39 : (Try.prog.info? 39).map (·.size) = some 12 := by kernel_rfl
theorem Try.size86 : (Try.prog.info? 86).map (·.size) = some 16 := by kernel_rfl
theorem Try.size48 : (Try.prog.info? 48).map (·.size) = some 64 := by kernel_rfl
theorem Try.size43 : (Try.prog.info? 43).map (·.size) = some 4 := by kernel_rfl
end Go.Proofs.Ytiiafgbdmejcpaa
