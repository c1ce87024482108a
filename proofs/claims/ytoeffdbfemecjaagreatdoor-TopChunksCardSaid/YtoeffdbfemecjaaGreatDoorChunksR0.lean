/-
  Runs of TopChunks, by the kernel. No conditions.
-/
import Derived.Test.YtoeffdbfemecjaaGreatDoorChunksD
import Derived.KernelRfl
set_option maxRecDepth 1000000
namespace Go.Proofs.YtoeffdbfemecjaaGreatDoor.topChunks
theorem r0 : Bs 0 = true := by kernel_rfl
theorem r1 : Bs 1 = true := by kernel_rfl
theorem r2 : Bs 2 = true := by kernel_rfl
theorem r3 : Bs 3 = true := by kernel_rfl
theorem r4 : Bs 4 = true := by kernel_rfl
theorem r5 : Bs 5 = true := by kernel_rfl
theorem r6 : Bs 6 = true := by kernel_rfl
theorem r7 : Bs 7 = true := by kernel_rfl
theorem r8 : Bs 8 = true := by kernel_rfl
theorem r9 : Bs 9 = true := by kernel_rfl
theorem r10 : Bs 10 = true := by kernel_rfl
end Go.Proofs.YtoeffdbfemecjaaGreatDoor.topChunks
