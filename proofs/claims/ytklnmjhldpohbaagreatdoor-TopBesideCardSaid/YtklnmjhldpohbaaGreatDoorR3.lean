/-
  Runs of TopBeside, by the kernel. No conditions.
-/
import Derived.Test.YtklnmjhldpohbaaGreatDoorRD
import Derived.KernelRfl
set_option maxRecDepth 1000000
namespace Go.Proofs.YtklnmjhldpohbaaGreatDoor.topBeside
theorem r4x11 : Bs 4 11 = true := by kernel_rfl
theorem r4x12 : Bs 4 12 = true := by kernel_rfl
theorem r5x0 : Bs 5 0 = true := by kernel_rfl
theorem r5x1 : Bs 5 1 = true := by kernel_rfl
theorem r5x2 : Bs 5 2 = true := by kernel_rfl
theorem r5x3 : Bs 5 3 = true := by kernel_rfl
theorem r5x4 : Bs 5 4 = true := by kernel_rfl
theorem r5x5 : Bs 5 5 = true := by kernel_rfl
theorem r5x6 : Bs 5 6 = true := by kernel_rfl
theorem r5x7 : Bs 5 7 = true := by kernel_rfl
theorem r5x8 : Bs 5 8 = true := by kernel_rfl
theorem r5x9 : Bs 5 9 = true := by kernel_rfl
theorem r5x10 : Bs 5 10 = true := by kernel_rfl
theorem r5x11 : Bs 5 11 = true := by kernel_rfl
theorem r5x12 : Bs 5 12 = true := by kernel_rfl
theorem r6x0 : Bs 6 0 = true := by kernel_rfl
theorem r6x1 : Bs 6 1 = true := by kernel_rfl
theorem r6x2 : Bs 6 2 = true := by kernel_rfl
theorem r6x3 : Bs 6 3 = true := by kernel_rfl
theorem r6x4 : Bs 6 4 = true := by kernel_rfl
theorem r6x5 : Bs 6 5 = true := by kernel_rfl
end Go.Proofs.YtklnmjhldpohbaaGreatDoor.topBeside
