/-
  Runs of TopPiped, by the kernel. No conditions.
-/
import Derived.Test.YtfmjehkohlbebaaGreatDoorPipedD
import Derived.KernelRfl
set_option maxRecDepth 1000000
namespace Go.Proofs.YtfmjehkohlbebaaGreatDoor.topPiped
theorem zn14 : runZ .nils 14 = true := by kernel_rfl
theorem ze14 : runZ .emp 14 = true := by kernel_rfl
theorem r1_14 : run 1 14 = true := by kernel_rfl
theorem r2_14 : run 2 14 = true := by kernel_rfl
theorem r3_14 : run 3 14 = true := by kernel_rfl
theorem r4_14 : run 4 14 = true := by kernel_rfl
theorem r5_14 : run 5 14 = true := by kernel_rfl
theorem r6_14 : run 6 14 = true := by kernel_rfl
end Go.Proofs.YtfmjehkohlbebaaGreatDoor.topPiped
