/-
  Runs of TopPiped, by the kernel. No conditions.
-/
import Derived.Test.YtfmjehkohlbebaaGreatDoorPipedD
import Derived.KernelRfl
set_option maxRecDepth 1000000
namespace Go.Proofs.YtfmjehkohlbebaaGreatDoor.topPiped
theorem zn1 : runZ .nils 1 = true := by kernel_rfl
theorem ze1 : runZ .emp 1 = true := by kernel_rfl
theorem r1_1 : run 1 1 = true := by kernel_rfl
theorem r2_1 : run 2 1 = true := by kernel_rfl
theorem r3_1 : run 3 1 = true := by kernel_rfl
theorem r4_1 : run 4 1 = true := by kernel_rfl
theorem r5_1 : run 5 1 = true := by kernel_rfl
theorem r6_1 : run 6 1 = true := by kernel_rfl
end Go.Proofs.YtfmjehkohlbebaaGreatDoor.topPiped
