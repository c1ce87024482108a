/-
  Runs of TopFreed, by the kernel. No conditions.
-/
import Derived.Test.YtoeffdbfemecjaaGreatDoorFreedD
import Derived.KernelRfl
set_option maxRecDepth 1000000
namespace Go.Proofs.YtoeffdbfemecjaaGreatDoor.topFreed
theorem r12x5 : Bs 12 5 = true := by kernel_rfl
theorem r12x6 : Bs 12 6 = true := by kernel_rfl
theorem r12x7 : Bs 12 7 = true := by kernel_rfl
theorem r12x8 : Bs 12 8 = true := by kernel_rfl
theorem r12x9 : Bs 12 9 = true := by kernel_rfl
theorem r13x0 : Bs 13 0 = true := by kernel_rfl
theorem r13x1 : Bs 13 1 = true := by kernel_rfl
theorem r13x2 : Bs 13 2 = true := by kernel_rfl
theorem r13x3 : Bs 13 3 = true := by kernel_rfl
theorem r13x4 : Bs 13 4 = true := by kernel_rfl
theorem r13x5 : Bs 13 5 = true := by kernel_rfl
theorem r13x6 : Bs 13 6 = true := by kernel_rfl
theorem r13x7 : Bs 13 7 = true := by kernel_rfl
theorem r13x8 : Bs 13 8 = true := by kernel_rfl
theorem r13x9 : Bs 13 9 = true := by kernel_rfl
theorem r14x0 : Bs 14 0 = true := by kernel_rfl
theorem r14x1 : Bs 14 1 = true := by kernel_rfl
theorem r14x2 : Bs 14 2 = true := by kernel_rfl
theorem r14x3 : Bs 14 3 = true := by kernel_rfl
theorem r14x4 : Bs 14 4 = true := by kernel_rfl
theorem r14x5 : Bs 14 5 = true := by kernel_rfl
theorem r14x6 : Bs 14 6 = true := by kernel_rfl
theorem r14x7 : Bs 14 7 = true := by kernel_rfl
theorem r14x8 : Bs 14 8 = true := by kernel_rfl
theorem r14x9 : Bs 14 9 = true := by kernel_rfl
end Go.Proofs.YtoeffdbfemecjaaGreatDoor.topFreed
