/-
  Runs of TopFreed, by the kernel. No conditions.
-/
import Derived.Test.YtoeffdbfemecjaaGreatDoorFreedD
import Derived.KernelRfl
set_option maxRecDepth 1000000
namespace Go.Proofs.YtoeffdbfemecjaaGreatDoor.topFreed
theorem r15x0 : Bs 15 0 = true := by kernel_rfl
theorem r15x1 : Bs 15 1 = true := by kernel_rfl
theorem r15x2 : Bs 15 2 = true := by kernel_rfl
theorem r15x3 : Bs 15 3 = true := by kernel_rfl
theorem r15x4 : Bs 15 4 = true := by kernel_rfl
theorem r15x5 : Bs 15 5 = true := by kernel_rfl
theorem r15x6 : Bs 15 6 = true := by kernel_rfl
theorem r15x7 : Bs 15 7 = true := by kernel_rfl
theorem r15x8 : Bs 15 8 = true := by kernel_rfl
theorem r15x9 : Bs 15 9 = true := by kernel_rfl
theorem r16x0 : Bs 16 0 = true := by kernel_rfl
theorem r16x1 : Bs 16 1 = true := by kernel_rfl
theorem r16x2 : Bs 16 2 = true := by kernel_rfl
theorem r16x3 : Bs 16 3 = true := by kernel_rfl
theorem r16x4 : Bs 16 4 = true := by kernel_rfl
theorem r16x5 : Bs 16 5 = true := by kernel_rfl
theorem r16x6 : Bs 16 6 = true := by kernel_rfl
theorem r16x7 : Bs 16 7 = true := by kernel_rfl
theorem r16x8 : Bs 16 8 = true := by kernel_rfl
theorem r16x9 : Bs 16 9 = true := by kernel_rfl
theorem r17x0 : Bs 17 0 = true := by kernel_rfl
theorem r17x1 : Bs 17 1 = true := by kernel_rfl
theorem r17x2 : Bs 17 2 = true := by kernel_rfl
theorem r17x3 : Bs 17 3 = true := by kernel_rfl
theorem r17x4 : Bs 17 4 = true := by kernel_rfl
end Go.Proofs.YtoeffdbfemecjaaGreatDoor.topFreed
