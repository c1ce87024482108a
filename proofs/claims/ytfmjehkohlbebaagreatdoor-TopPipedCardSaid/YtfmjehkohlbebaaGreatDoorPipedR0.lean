/-
  Runs of TopPiped, by the kernel. No conditions.
-/
import Derived.Test.YtfmjehkohlbebaaGreatDoorPipedD
import Derived.KernelRfl
set_option maxRecDepth 1000000
namespace Go.Proofs.YtfmjehkohlbebaaGreatDoor.topPiped
theorem zn0 : runZ .nils 0 = true := by kernel_rfl
theorem ze0 : runZ .emp 0 = true := by kernel_rfl
theorem r1_0 : run 1 0 = true := by kernel_rfl
theorem r2_0 : run 2 0 = true := by kernel_rfl
theorem r3_0 : run 3 0 = true := by kernel_rfl
theorem r4_0 : run 4 0 = true := by kernel_rfl
theorem r5_0 : run 5 0 = true := by kernel_rfl
theorem r6_0 : run 6 0 = true := by kernel_rfl
end Go.Proofs.YtfmjehkohlbebaaGreatDoor.topPiped
