/-
  Runs of TopPiped, by the kernel. No conditions.
-/
import Derived.Test.YtfmjehkohlbebaaGreatDoorPipedD
import Derived.KernelRfl
set_option maxRecDepth 1000000
namespace Go.Proofs.YtfmjehkohlbebaaGreatDoor.topPiped
theorem zn12 : runZ .nils 12 = true := by kernel_rfl
theorem ze12 : runZ .emp 12 = true := by kernel_rfl
theorem r1_12 : run 1 12 = true := by kernel_rfl
theorem r2_12 : run 2 12 = true := by kernel_rfl
theorem r3_12 : run 3 12 = true := by kernel_rfl
theorem r4_12 : run 4 12 = true := by kernel_rfl
theorem r5_12 : run 5 12 = true := by kernel_rfl
theorem r6_12 : run 6 12 = true := by kernel_rfl
end Go.Proofs.YtfmjehkohlbebaaGreatDoor.topPiped
