/-
  Runs of TopFreed, by the kernel. No conditions.
-/
import Derived.Test.YtoeffdbfemecjaaGreatDoorFreedD
import Derived.KernelRfl
set_option maxRecDepth 1000000
namespace Go.Proofs.YtoeffdbfemecjaaGreatDoor.topFreed
theorem r17x5 : Bs 17 5 = true := by kernel_rfl
theorem r17x6 : Bs 17 6 = true := by kernel_rfl
theorem r17x7 : Bs 17 7 = true := by kernel_rfl
theorem r17x8 : Bs 17 8 = true := by kernel_rfl
theorem r17x9 : Bs 17 9 = true := by kernel_rfl
theorem r18x0 : Bs 18 0 = true := by kernel_rfl
theorem r18x1 : Bs 18 1 = true := by kernel_rfl
theorem r18x2 : Bs 18 2 = true := by kernel_rfl
theorem r18x3 : Bs 18 3 = true := by kernel_rfl
theorem r18x4 : Bs 18 4 = true := by kernel_rfl
theorem r18x5 : Bs 18 5 = true := by kernel_rfl
theorem r18x6 : Bs 18 6 = true := by kernel_rfl
theorem r18x7 : Bs 18 7 = true := by kernel_rfl
theorem r18x8 : Bs 18 8 = true := by kernel_rfl
theorem r18x9 : Bs 18 9 = true := by kernel_rfl
theorem r19x0 : Bs 19 0 = true := by kernel_rfl
theorem r19x1 : Bs 19 1 = true := by kernel_rfl
theorem r19x2 : Bs 19 2 = true := by kernel_rfl
theorem r19x3 : Bs 19 3 = true := by kernel_rfl
theorem r19x4 : Bs 19 4 = true := by kernel_rfl
theorem r19x5 : Bs 19 5 = true := by kernel_rfl
theorem r19x6 : Bs 19 6 = true := by kernel_rfl
theorem r19x7 : Bs 19 7 = true := by kernel_rfl
theorem r19x8 : Bs 19 8 = true := by kernel_rfl
theorem r19x9 : Bs 19 9 = true := by kernel_rfl
end Go.Proofs.YtoeffdbfemecjaaGreatDoor.topFreed
