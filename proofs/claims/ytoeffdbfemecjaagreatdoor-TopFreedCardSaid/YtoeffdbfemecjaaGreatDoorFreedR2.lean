/-
  Runs of TopFreed, by the kernel. No conditions.
-/
import Derived.Test.YtoeffdbfemecjaaGreatDoorFreedD
import Derived.KernelRfl
set_option maxRecDepth 1000000
namespace Go.Proofs.YtoeffdbfemecjaaGreatDoor.topFreed
theorem r5x0 : Bs 5 0 = true := by kernel_rfl
theorem r5x1 : Bs 5 1 = true := by kernel_rfl
theorem r5x2 : Bs 5 2 = true := by kernel_rfl
theorem r5x3 : Bs 5 3 = true := by kernel_rfl
theorem r5x4 : Bs 5 4 = true := by kernel_rfl
theorem r5x5 : Bs 5 5 = true := by kernel_rfl
theorem r5x6 : Bs 5 6 = true := by kernel_rfl
theorem r5x7 : Bs 5 7 = true := by kernel_rfl
theorem r5x8 : Bs 5 8 = true := by kernel_rfl
theorem r5x9 : Bs 5 9 = true := by kernel_rfl
theorem r6x0 : Bs 6 0 = true := by kernel_rfl
theorem r6x1 : Bs 6 1 = true := by kernel_rfl
theorem r6x2 : Bs 6 2 = true := by kernel_rfl
theorem r6x3 : Bs 6 3 = true := by kernel_rfl
theorem r6x4 : Bs 6 4 = true := by kernel_rfl
theorem r6x5 : Bs 6 5 = true := by kernel_rfl
theorem r6x6 : Bs 6 6 = true := by kernel_rfl
theorem r6x7 : Bs 6 7 = true := by kernel_rfl
theorem r6x8 : Bs 6 8 = true := by kernel_rfl
theorem r6x9 : Bs 6 9 = true := by kernel_rfl
theorem r7x0 : Bs 7 0 = true := by kernel_rfl
theorem r7x1 : Bs 7 1 = true := by kernel_rfl
theorem r7x2 : Bs 7 2 = true := by kernel_rfl
theorem r7x3 : Bs 7 3 = true := by kernel_rfl
theorem r7x4 : Bs 7 4 = true := by kernel_rfl
end Go.Proofs.YtoeffdbfemecjaaGreatDoor.topFreed
