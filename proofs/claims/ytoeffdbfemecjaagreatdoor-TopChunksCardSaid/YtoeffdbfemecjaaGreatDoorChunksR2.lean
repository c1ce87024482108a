/-
  Runs of TopChunks, by the kernel. No conditions.
-/
import Derived.Test.YtoeffdbfemecjaaGreatDoorChunksD
import Derived.KernelRfl
set_option maxRecDepth 1000000
namespace Go.Proofs.YtoeffdbfemecjaaGreatDoor.topChunks
theorem r23 : Bs 23 = true := by kernel_rfl
theorem r24 : Bs 24 = true := by kernel_rfl
theorem r25 : Bs 25 = true := by kernel_rfl
theorem r26 : Bs 26 = true := by kernel_rfl
theorem r27 : Bs 27 = true := by kernel_rfl
theorem r28 : Bs 28 = true := by kernel_rfl
theorem r29 : Bs 29 = true := by kernel_rfl
theorem r30 : Bs 30 = true := by kernel_rfl
theorem r31 : Bs 31 = true := by kernel_rfl
theorem r32 : Bs 32 = true := by kernel_rfl
theorem r33 : Bs 33 = true := by kernel_rfl
end Go.Proofs.YtoeffdbfemecjaaGreatDoor.topChunks
