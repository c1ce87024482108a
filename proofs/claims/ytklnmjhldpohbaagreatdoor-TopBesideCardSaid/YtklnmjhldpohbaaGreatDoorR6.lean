/-
  Runs of TopBeside, by the kernel. No conditions.
-/
import Derived.Test.YtklnmjhldpohbaaGreatDoorRD
import Derived.KernelRfl
set_option maxRecDepth 1000000
namespace Go.Proofs.YtklnmjhldpohbaaGreatDoor.topBeside
theorem r9x9 : Bs 9 9 = true := by kernel_rfl
theorem r9x10 : Bs 9 10 = true := by kernel_rfl
theorem r9x11 : Bs 9 11 = true := by kernel_rfl
theorem r9x12 : Bs 9 12 = true := by kernel_rfl
theorem r10x0 : Bs 10 0 = true := by kernel_rfl
theorem r10x1 : Bs 10 1 = true := by kernel_rfl
theorem r10x2 : Bs 10 2 = true := by kernel_rfl
theorem r10x3 : Bs 10 3 = true := by kernel_rfl
theorem r10x4 : Bs 10 4 = true := by kernel_rfl
theorem r10x5 : Bs 10 5 = true := by kernel_rfl
theorem r10x6 : Bs 10 6 = true := by kernel_rfl
theorem r10x7 : Bs 10 7 = true := by kernel_rfl
theorem r10x8 : Bs 10 8 = true := by kernel_rfl
theorem r10x9 : Bs 10 9 = true := by kernel_rfl
theorem r10x10 : Bs 10 10 = true := by kernel_rfl
theorem r10x11 : Bs 10 11 = true := by kernel_rfl
theorem r10x12 : Bs 10 12 = true := by kernel_rfl
theorem r11x0 : Bs 11 0 = true := by kernel_rfl
theorem r11x1 : Bs 11 1 = true := by kernel_rfl
theorem r11x2 : Bs 11 2 = true := by kernel_rfl
theorem r11x3 : Bs 11 3 = true := by kernel_rfl
end Go.Proofs.YtklnmjhldpohbaaGreatDoor.topBeside
