/-
  Runs of TopFreed, by the kernel. No conditions.
-/
import Derived.Test.YtoeffdbfemecjaaGreatDoorFreedD
import Derived.KernelRfl
set_option maxRecDepth 1000000
namespace Go.Proofs.YtoeffdbfemecjaaGreatDoor.topFreed
theorem r2x5 : Bs 2 5 = true := by kernel_rfl
theorem r2x6 : Bs 2 6 = true := by kernel_rfl
theorem r2x7 : Bs 2 7 = true := by kernel_rfl
theorem r2x8 : Bs 2 8 = true := by kernel_rfl
theorem r2x9 : Bs 2 9 = true := by kernel_rfl
theorem r3x0 : Bs 3 0 = true := by kernel_rfl
theorem r3x1 : Bs 3 1 = true := by kernel_rfl
theorem r3x2 : Bs 3 2 = true := by kernel_rfl
theorem r3x3 : Bs 3 3 = true := by kernel_rfl
theorem r3x4 : Bs 3 4 = true := by kernel_rfl
theorem r3x5 : Bs 3 5 = true := by kernel_rfl
theorem r3x6 : Bs 3 6 = true := by kernel_rfl
theorem r3x7 : Bs 3 7 = true := by kernel_rfl
theorem r3x8 : Bs 3 8 = true := by kernel_rfl
theorem r3x9 : Bs 3 9 = true := by kernel_rfl
theorem r4x0 : Bs 4 0 = true := by kernel_rfl
theorem r4x1 : Bs 4 1 = true := by kernel_rfl
theorem r4x2 : Bs 4 2 = true := by kernel_rfl
theorem r4x3 : Bs 4 3 = true := by kernel_rfl
theorem r4x4 : Bs 4 4 = true := by kernel_rfl
theorem r4x5 : Bs 4 5 = true := by kernel_rfl
theorem r4x6 : Bs 4 6 = true := by kernel_rfl
theorem r4x7 : Bs 4 7 = true := by kernel_rfl
theorem r4x8 : Bs 4 8 = true := by kernel_rfl
theorem r4x9 : Bs 4 9 = true := by kernel_rfl
end Go.Proofs.YtoeffdbfemecjaaGreatDoor.topFreed
