/-
  Runs of TopPiped, by the kernel. No conditions.
-/
import Derived.Test.YtfmjehkohlbebaaGreatDoorPipedD
import Derived.KernelRfl
set_option maxRecDepth 1000000
namespace Go.Proofs.YtfmjehkohlbebaaGreatDoor.topPiped
theorem zn2 : runZ .nils 2 = true := by kernel_rfl
theorem ze2 : runZ .emp 2 = true := by kernel_rfl
theorem r1_2 : run 1 2 = true := by kernel_rfl
theorem r2_2 : run 2 2 = true := by kernel_rfl
theorem r3_2 : run 3 2 = true := by kernel_rfl
theorem r4_2 : run 4 2 = true := by kernel_rfl
theorem r5_2 : run 5 2 = true := by kernel_rfl
theorem r6_2 : run 6 2 = true := by kernel_rfl
end Go.Proofs.YtfmjehkohlbebaaGreatDoor.topPiped
