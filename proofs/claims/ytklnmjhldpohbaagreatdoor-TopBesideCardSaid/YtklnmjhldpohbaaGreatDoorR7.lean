/-
  Runs of TopBeside, by the kernel. No conditions.
-/
import Derived.Test.YtklnmjhldpohbaaGreatDoorRD
import Derived.KernelRfl
set_option maxRecDepth 1000000
namespace Go.Proofs.YtklnmjhldpohbaaGreatDoor.topBeside
theorem r11x4 : Bs 11 4 = true := by kernel_rfl
theorem r11x5 : Bs 11 5 = true := by kernel_rfl
theorem r11x6 : Bs 11 6 = true := by kernel_rfl
theorem r11x7 : Bs 11 7 = true := by kernel_rfl
theorem r11x8 : Bs 11 8 = true := by kernel_rfl
theorem r11x9 : Bs 11 9 = true := by kernel_rfl
theorem r11x10 : Bs 11 10 = true := by kernel_rfl
theorem r11x11 : Bs 11 11 = true := by kernel_rfl
theorem r11x12 : Bs 11 12 = true := by kernel_rfl
theorem r12x0 : Bs 12 0 = true := by kernel_rfl
theorem r12x1 : Bs 12 1 = true := by kernel_rfl
theorem r12x2 : Bs 12 2 = true := by kernel_rfl
theorem r12x3 : Bs 12 3 = true := by kernel_rfl
theorem r12x4 : Bs 12 4 = true := by kernel_rfl
theorem r12x5 : Bs 12 5 = true := by kernel_rfl
theorem r12x6 : Bs 12 6 = true := by kernel_rfl
theorem r12x7 : Bs 12 7 = true := by kernel_rfl
theorem r12x8 : Bs 12 8 = true := by kernel_rfl
theorem r12x9 : Bs 12 9 = true := by kernel_rfl
theorem r12x10 : Bs 12 10 = true := by kernel_rfl
theorem r12x11 : Bs 12 11 = true := by kernel_rfl
theorem r12x12 : Bs 12 12 = true := by kernel_rfl
end Go.Proofs.YtklnmjhldpohbaaGreatDoor.topBeside
