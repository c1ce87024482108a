/-
  Runs of TopBeside, by the kernel. No conditions.
-/
import Derived.Test.YtklnmjhldpohbaaGreatDoorRD
import Derived.KernelRfl
set_option maxRecDepth 1000000
namespace Go.Proofs.YtklnmjhldpohbaaGreatDoor.topBeside
theorem r3x3 : Bs 3 3 = true := by kernel_rfl
theorem r3x4 : Bs 3 4 = true := by kernel_rfl
theorem r3x5 : Bs 3 5 = true := by kernel_rfl
theorem r3x6 : Bs 3 6 = true := by kernel_rfl
theorem r3x7 : Bs 3 7 = true := by kernel_rfl
theorem r3x8 : Bs 3 8 = true := by kernel_rfl
theorem r3x9 : Bs 3 9 = true := by kernel_rfl
theorem r3x10 : Bs 3 10 = true := by kernel_rfl
theorem r3x11 : Bs 3 11 = true := by kernel_rfl
theorem r3x12 : Bs 3 12 = true := by kernel_rfl
theorem r4x0 : Bs 4 0 = true := by kernel_rfl
theorem r4x1 : Bs 4 1 = true := by kernel_rfl
theorem r4x2 : Bs 4 2 = true := by kernel_rfl
theorem r4x3 : Bs 4 3 = true := by kernel_rfl
theorem r4x4 : Bs 4 4 = true := by kernel_rfl
theorem r4x5 : Bs 4 5 = true := by kernel_rfl
theorem r4x6 : Bs 4 6 = true := by kernel_rfl
theorem r4x7 : Bs 4 7 = true := by kernel_rfl
theorem r4x8 : Bs 4 8 = true := by kernel_rfl
theorem r4x9 : Bs 4 9 = true := by kernel_rfl
theorem r4x10 : Bs 4 10 = true := by kernel_rfl
end Go.Proofs.YtklnmjhldpohbaaGreatDoor.topBeside
