/-
  Runs of TopPiped, by the kernel. No conditions.
-/
import Derived.Test.YtfmjehkohlbebaaGreatDoorPipedD
import Derived.KernelRfl
set_option maxRecDepth 1000000
namespace Go.Proofs.YtfmjehkohlbebaaGreatDoor.topPiped
theorem zn9 : runZ .nils 9 = true := by kernel_rfl
theorem ze9 : runZ .emp 9 = true := by kernel_rfl
theorem r1_9 : run 1 9 = true := by kernel_rfl
theorem r2_9 : run 2 9 = true := by kernel_rfl
theorem r3_9 : run 3 9 = true := by kernel_rfl
theorem r4_9 : run 4 9 = true := by kernel_rfl
theorem r5_9 : run 5 9 = true := by kernel_rfl
theorem r6_9 : run 6 9 = true := by kernel_rfl
end Go.Proofs.YtfmjehkohlbebaaGreatDoor.topPiped
