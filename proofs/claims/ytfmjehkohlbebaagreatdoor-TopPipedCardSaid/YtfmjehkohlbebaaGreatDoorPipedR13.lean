/-
  Runs of TopPiped, by the kernel. No conditions.
-/
import Derived.Test.YtfmjehkohlbebaaGreatDoorPipedD
import Derived.KernelRfl
set_option maxRecDepth 1000000
namespace Go.Proofs.YtfmjehkohlbebaaGreatDoor.topPiped
theorem zn13 : runZ .nils 13 = true := by kernel_rfl
theorem ze13 : runZ .emp 13 = true := by kernel_rfl
theorem r1_13 : run 1 13 = true := by kernel_rfl
theorem r2_13 : run 2 13 = true := by kernel_rfl
theorem r3_13 : run 3 13 = true := by kernel_rfl
theorem r4_13 : run 4 13 = true := by kernel_rfl
theorem r5_13 : run 5 13 = true := by kernel_rfl
theorem r6_13 : run 6 13 = true := by kernel_rfl
end Go.Proofs.YtfmjehkohlbebaaGreatDoor.topPiped
