/-
  Runs of TopPiped, by the kernel. No conditions.
-/
import Derived.Test.YtfmjehkohlbebaaGreatDoorPipedD
import Derived.KernelRfl
set_option maxRecDepth 1000000
namespace Go.Proofs.YtfmjehkohlbebaaGreatDoor.topPiped
theorem zn3 : runZ .nils 3 = true := by kernel_rfl
theorem ze3 : runZ .emp 3 = true := by kernel_rfl
theorem r1_3 : run 1 3 = true := by kernel_rfl
theorem r2_3 : run 2 3 = true := by kernel_rfl
theorem r3_3 : run 3 3 = true := by kernel_rfl
theorem r4_3 : run 4 3 = true := by kernel_rfl
theorem r5_3 : run 5 3 = true := by kernel_rfl
theorem r6_3 : run 6 3 = true := by kernel_rfl
end Go.Proofs.YtfmjehkohlbebaaGreatDoor.topPiped
