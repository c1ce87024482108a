/-
  Runs of TopFires, by the kernel. No conditions.
-/
import Derived.Test.YtfmjehkohlbebaaGreatDoorFiresD
import Derived.KernelRfl
set_option maxRecDepth 1000000
namespace Go.Proofs.YtfmjehkohlbebaaGreatDoor.topFires
theorem r0 : run 0 2 = true := by kernel_rfl
theorem r3 : run 3 5 = true := by kernel_rfl
theorem r6 : run 6 8 = true := by kernel_rfl
theorem r9 : run 9 11 = true := by kernel_rfl
theorem r12 : run 12 14 = true := by kernel_rfl
theorem r15 : run 15 17 = true := by kernel_rfl
theorem r18 : run 18 20 = true := by kernel_rfl
theorem r21 : run 21 23 = true := by kernel_rfl
end Go.Proofs.YtfmjehkohlbebaaGreatDoor.topFires
