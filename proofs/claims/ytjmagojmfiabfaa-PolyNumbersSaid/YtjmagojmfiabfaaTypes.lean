/-
  Sizes and zero values of the types that occur.
-/
import Derived.Test.YtjmagojmfiabfaaRows
import Derived.Test.YtjmagojmfiabfaaKit
namespace Go.Proofs.Ytjmagojmfiabfaa
theorem Try.info5 : (Try.prog.info? 5).map (fun i => (i.zero, i.size, i.bytes)) = some (some (.int .u8 0), 1, 1) := by kernel_rfl
theorem Try.size5 : (Try.prog.info? 5).map (·.size) = some 1 := by kernel_rfl
theorem Try.info3 : (Try.prog.info? 3).map (fun i => (i.zero, i.size, i.bytes)) = some (some (.int .i64 0), 1, 8) := by kernel_rfl
theorem Try.size3 : (Try.prog.info? 3).map (·.size) = some 1 := by kernel_rfl
theorem Try.info122 : (Try.prog.info? 122).map (fun i => (i.zero, i.size, i.bytes)) = some (some (.int .u32 0), 1, 4) := by kernel_rfl
theorem Try.size122 : (Try.prog.info? 122).map (·.size) = some 1 := by kernel_rfl
theorem Try.info2 : (Try.prog.info? 2).map (fun i => (i.zero, i.size, i.bytes)) = some (some (.int .i64 0), 1, 8) := by kernel_rfl
theorem Try.size2 : (Try.prog.info? 2).map (·.size) = some 1 := by kernel_rfl
theorem Try.size22 : (Try.prog.info? 22).map (·.size) = some 32 := by kernel_rfl
theorem Try.size110 : (Try.prog.info? 110).map (·.size) = some 64 := by kernel_rfl
theorem Try.size24 : (Try.prog.info? 24).map (·.size) = some 16 := by kernel_rfl
theorem Try.size101 : (Try.prog.info? 101).map (·.size) = some 31 := by kernel_rfl
theorem Try.size26 : (Try.prog.info? 26).map (·.size) = some 16 := by kernel_rfl
end Go.Proofs.Ytjmagojmfiabfaa
