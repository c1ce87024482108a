/-
  Runs of TopPiped, by the kernel. No conditions.
-/
import Derived.Test.YtfmjehkohlbebaaGreatDoorPipedD
import Derived.KernelRfl
set_option maxRecDepth 1000000
namespace Go.Proofs.YtfmjehkohlbebaaGreatDoor.topPiped
theorem zn5 : runZ .nils 5 = true := by kernel_rfl
theorem ze5 : runZ .emp 5 = true := by kernel_rfl
theorem r1_5 : run 1 5 = true := by kernel_rfl
theorem r2_5 : run 2 5 = true := by kernel_rfl
theorem r3_5 : run 3 5 = true := by kernel_rfl
theorem r4_5 : run 4 5 = true := by kernel_rfl
theorem r5_5 : run 5 5 = true := by kernel_rfl
theorem r6_5 : run 6 5 = true := by kernel_rfl
end Go.Proofs.YtfmjehkohlbebaaGreatDoor.topPiped
