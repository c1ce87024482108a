/-
  Runs of TopFreed, by the kernel. No conditions.
-/
import Derived.Test.YtoeffdbfemecjaaGreatDoorFreedD
import Derived.KernelRfl
set_option maxRecDepth 1000000
namespace Go.Proofs.YtoeffdbfemecjaaGreatDoor.topFreed
theorem r0x0 : Bs 0 0 = true := by kernel_rfl
theorem r0x1 : Bs 0 1 = true := by kernel_rfl
theorem r0x2 : Bs 0 2 = true := by kernel_rfl
theorem r0x3 : Bs 0 3 = true := by kernel_rfl
theorem r0x4 : Bs 0 4 = true := by kernel_rfl
theorem r0x5 : Bs 0 5 = true := by kernel_rfl
theorem r0x6 : Bs 0 6 = true := by kernel_rfl
theorem r0x7 : Bs 0 7 = true := by kernel_rfl
theorem r0x8 : Bs 0 8 = true := by kernel_rfl
theorem r0x9 : Bs 0 9 = true := by kernel_rfl
theorem r1x0 : Bs 1 0 = true := by kernel_rfl
theorem r1x1 : Bs 1 1 = true := by kernel_rfl
theorem r1x2 : Bs 1 2 = true := by kernel_rfl
theorem r1x3 : Bs 1 3 = true := by kernel_rfl
theorem r1x4 : Bs 1 4 = true := by kernel_rfl
theorem r1x5 : Bs 1 5 = true := by kernel_rfl
theorem r1x6 : Bs 1 6 = true := by kernel_rfl
theorem r1x7 : Bs 1 7 = true := by kernel_rfl
theorem r1x8 : Bs 1 8 = true := by kernel_rfl
theorem r1x9 : Bs 1 9 = true := by kernel_rfl
theorem r2x0 : Bs 2 0 = true := by kernel_rfl
theorem r2x1 : Bs 2 1 = true := by kernel_rfl
theorem r2x2 : Bs 2 2 = true := by kernel_rfl
theorem r2x3 : Bs 2 3 = true := by kernel_rfl
theorem r2x4 : Bs 2 4 = true := by kernel_rfl
end Go.Proofs.YtoeffdbfemecjaaGreatDoor.topFreed
