/-
  Runs of TopBeside, by the kernel. No conditions.
-/
import Derived.Test.YtklnmjhldpohbaaGreatDoorRD
import Derived.KernelRfl
set_option maxRecDepth 1000000
namespace Go.Proofs.YtklnmjhldpohbaaGreatDoor.topBeside
theorem r1x8 : Bs 1 8 = true := by kernel_rfl
theorem r1x9 : Bs 1 9 = true := by kernel_rfl
theorem r1x10 : Bs 1 10 = true := by kernel_rfl
theorem r1x11 : Bs 1 11 = true := by kernel_rfl
theorem r1x12 : Bs 1 12 = true := by kernel_rfl
theorem r2x0 : Bs 2 0 = true := by kernel_rfl
theorem r2x1 : Bs 2 1 = true := by kernel_rfl
theorem r2x2 : Bs 2 2 = true := by kernel_rfl
theorem r2x3 : Bs 2 3 = true := by kernel_rfl
theorem r2x4 : Bs 2 4 = true := by kernel_rfl
theorem r2x5 : Bs 2 5 = true := by kernel_rfl
theorem r2x6 : Bs 2 6 = true := by kernel_rfl
theorem r2x7 : Bs 2 7 = true := by kernel_rfl
theorem r2x8 : Bs 2 8 = true := by kernel_rfl
theorem r2x9 : Bs 2 9 = true := by kernel_rfl
theorem r2x10 : Bs 2 10 = true := by kernel_rfl
theorem r2x11 : Bs 2 11 = true := by kernel_rfl
theorem r2x12 : Bs 2 12 = true := by kernel_rfl
theorem r3x0 : Bs 3 0 = true := by kernel_rfl
theorem r3x1 : Bs 3 1 = true := by kernel_rfl
theorem r3x2 : Bs 3 2 = true := by kernel_rfl
end Go.Proofs.YtklnmjhldpohbaaGreatDoor.topBeside
