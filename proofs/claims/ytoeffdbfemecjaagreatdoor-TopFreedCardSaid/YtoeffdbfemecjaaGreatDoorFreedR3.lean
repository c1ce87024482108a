/-
  Runs of TopFreed, by the kernel. No conditions.
-/
import Derived.Test.YtoeffdbfemecjaaGreatDoorFreedD
import Derived.KernelRfl
set_option maxRecDepth 1000000
namespace Go.Proofs.YtoeffdbfemecjaaGreatDoor.topFreed
theorem r7x5 : Bs 7 5 = true := by kernel_rfl
theorem r7x6 : Bs 7 6 = true := by kernel_rfl
theorem r7x7 : Bs 7 7 = true := by kernel_rfl
theorem r7x8 : Bs 7 8 = true := by kernel_rfl
theorem r7x9 : Bs 7 9 = true := by kernel_rfl
theorem r8x0 : Bs 8 0 = true := by kernel_rfl
theorem r8x1 : Bs 8 1 = true := by kernel_rfl
theorem r8x2 : Bs 8 2 = true := by kernel_rfl
theorem r8x3 : Bs 8 3 = true := by kernel_rfl
theorem r8x4 : Bs 8 4 = true := by kernel_rfl
theorem r8x5 : Bs 8 5 = true := by kernel_rfl
theorem r8x6 : Bs 8 6 = true := by kernel_rfl
theorem r8x7 : Bs 8 7 = true := by kernel_rfl
theorem r8x8 : Bs 8 8 = true := by kernel_rfl
theorem r8x9 : Bs 8 9 = true := by kernel_rfl
theorem r9x0 : Bs 9 0 = true := by kernel_rfl
theorem r9x1 : Bs 9 1 = true := by kernel_rfl
theorem r9x2 : Bs 9 2 = true := by kernel_rfl
theorem r9x3 : Bs 9 3 = true := by kernel_rfl
theorem r9x4 : Bs 9 4 = true := by kernel_rfl
theorem r9x5 : Bs 9 5 = true := by kernel_rfl
theorem r9x6 : Bs 9 6 = true := by kernel_rfl
theorem r9x7 : Bs 9 7 = true := by kernel_rfl
theorem r9x8 : Bs 9 8 = true := by kernel_rfl
theorem r9x9 : Bs 9 9 = true := by kernel_rfl
end Go.Proofs.YtoeffdbfemecjaaGreatDoor.topFreed
