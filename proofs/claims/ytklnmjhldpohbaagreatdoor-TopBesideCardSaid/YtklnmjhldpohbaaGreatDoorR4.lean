/-
  Runs of TopBeside, by the kernel. No conditions.
-/
import Derived.Test.YtklnmjhldpohbaaGreatDoorRD
import Derived.KernelRfl
set_option maxRecDepth 1000000
namespace Go.Proofs.YtklnmjhldpohbaaGreatDoor.topBeside
theorem r6x6 : Bs 6 6 = true := by kernel_rfl
theorem r6x7 : Bs 6 7 = true := by kernel_rfl
theorem r6x8 : Bs 6 8 = true := by kernel_rfl
theorem r6x9 : Bs 6 9 = true := by kernel_rfl
theorem r6x10 : Bs 6 10 = true := by kernel_rfl
theorem r6x11 : Bs 6 11 = true := by kernel_rfl
theorem r6x12 : Bs 6 12 = true := by kernel_rfl
theorem r7x0 : Bs 7 0 = true := by kernel_rfl
theorem r7x1 : Bs 7 1 = true := by kernel_rfl
theorem r7x2 : Bs 7 2 = true := by kernel_rfl
theorem r7x3 : Bs 7 3 = true := by kernel_rfl
theorem r7x4 : Bs 7 4 = true := by kernel_rfl
theorem r7x5 : Bs 7 5 = true := by kernel_rfl
theorem r7x6 : Bs 7 6 = true := by kernel_rfl
theorem r7x7 : Bs 7 7 = true := by kernel_rfl
theorem r7x8 : Bs 7 8 = true := by kernel_rfl
theorem r7x9 : Bs 7 9 = true := by kernel_rfl
theorem r7x10 : Bs 7 10 = true := by kernel_rfl
theorem r7x11 : Bs 7 11 = true := by kernel_rfl
theorem r7x12 : Bs 7 12 = true := by kernel_rfl
theorem r8x0 : Bs 8 0 = true := by kernel_rfl
end Go.Proofs.YtklnmjhldpohbaaGreatDoor.topBeside
