/-
  Runs of TopPiped, by the kernel. No conditions.
-/
import Derived.Test.YtfmjehkohlbebaaGreatDoorPipedD
import Derived.KernelRfl
set_option maxRecDepth 1000000
namespace Go.Proofs.YtfmjehkohlbebaaGreatDoor.topPiped
theorem zn6 : runZ .nils 6 = true := by kernel_rfl
theorem ze6 : runZ .emp 6 = true := by kernel_rfl
theorem r1_6 : run 1 6 = true := by kernel_rfl
theorem r2_6 : run 2 6 = true := by kernel_rfl
theorem r3_6 : run 3 6 = true := by kernel_rfl
theorem r4_6 : run 4 6 = true := by kernel_rfl
theorem r5_6 : run 5 6 = true := by kernel_rfl
theorem r6_6 : run 6 6 = true := by kernel_rfl
end Go.Proofs.YtfmjehkohlbebaaGreatDoor.topPiped
