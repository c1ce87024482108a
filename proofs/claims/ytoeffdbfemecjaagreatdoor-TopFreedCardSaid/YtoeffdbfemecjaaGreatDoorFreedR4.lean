/-
  Runs of TopFreed, by the kernel. No conditions.
-/
import Derived.Test.YtoeffdbfemecjaaGreatDoorFreedD
import Derived.KernelRfl
set_option maxRecDepth 1000000
namespace Go.Proofs.YtoeffdbfemecjaaGreatDoor.topFreed
theorem r10x0 : Bs 10 0 = true := by kernel_rfl
theorem r10x1 : Bs 10 1 = true := by kernel_rfl
theorem r10x2 : Bs 10 2 = true := by kernel_rfl
theorem r10x3 : Bs 10 3 = true := by kernel_rfl
theorem r10x4 : Bs 10 4 = true := by kernel_rfl
theorem r10x5 : Bs 10 5 = true := by kernel_rfl
theorem r10x6 : Bs 10 6 = true := by kernel_rfl
theorem r10x7 : Bs 10 7 = true := by kernel_rfl
theorem r10x8 : Bs 10 8 = true := by kernel_rfl
theorem r10x9 : Bs 10 9 = true := by kernel_rfl
theorem r11x0 : Bs 11 0 = true := by kernel_rfl
theorem r11x1 : Bs 11 1 = true := by kernel_rfl
theorem r11x2 : Bs 11 2 = true := by kernel_rfl
theorem r11x3 : Bs 11 3 = true := by kernel_rfl
theorem r11x4 : Bs 11 4 = true := by kernel_rfl
theorem r11x5 : Bs 11 5 = true := by kernel_rfl
theorem r11x6 : Bs 11 6 = true := by kernel_rfl
theorem r11x7 : Bs 11 7 = true := by kernel_rfl
theorem r11x8 : Bs 11 8 = true := by kernel_rfl
theorem r11x9 : Bs 11 9 = true := by kernel_rfl
theorem r12x0 : Bs 12 0 = true := by kernel_rfl
theorem r12x1 : Bs 12 1 = true := by kernel_rfl
theorem r12x2 : Bs 12 2 = true := by kernel_rfl
theorem r12x3 : Bs 12 3 = true := by kernel_rfl
theorem r12x4 : Bs 12 4 = true := by kernel_rfl
end Go.Proofs.YtoeffdbfemecjaaGreatDoor.topFreed
