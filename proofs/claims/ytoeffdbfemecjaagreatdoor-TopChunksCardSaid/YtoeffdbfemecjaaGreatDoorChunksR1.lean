/-
  Runs of TopChunks, by the kernel. No conditions.
-/
import Derived.Test.YtoeffdbfemecjaaGreatDoorChunksD
import Derived.KernelRfl
set_option maxRecDepth 1000000
namespace Go.Proofs.YtoeffdbfemecjaaGreatDoor.topChunks
theorem r11 : Bs 11 = true := by kernel_rfl
theorem r12 : Bs 12 = true := by kernel_rfl
theorem r13 : Bs 13 = true := by kernel_rfl
theorem r14 : Bs 14 = true := by kernel_rfl
theorem r15 : Bs 15 = true := by kernel_rfl
theorem r16 : Bs 16 = true := by kernel_rfl
theorem r17 : Bs 17 = true := by kernel_rfl
theorem r18 : Bs 18 = true := by kernel_rfl
theorem r19 : Bs 19 = true := by kernel_rfl
theorem r20 : Bs 20 = true := by kernel_rfl
theorem r21 : Bs 21 = true := by kernel_rfl
theorem r22 : Bs 22 = true := by kernel_rfl
end Go.Proofs.YtoeffdbfemecjaaGreatDoor.topChunks
