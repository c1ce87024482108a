/-
  Runs of TopPiped, by the kernel. No conditions.
-/
import Derived.Test.YtfmjehkohlbebaaGreatDoorPipedD
import Derived.KernelRfl
set_option maxRecDepth 1000000
namespace Go.Proofs.YtfmjehkohlbebaaGreatDoor.topPiped
theorem zn11 : runZ .nils 11 = true := by kernel_rfl
theorem ze11 : runZ .emp 11 = true := by kernel_rfl
theorem r1_11 : run 1 11 = true := by kernel_rfl
theorem r2_11 : run 2 11 = true := by kernel_rfl
theorem r3_11 : run 3 11 = true := by kernel_rfl
theorem r4_11 : run 4 11 = true := by kernel_rfl
theorem r5_11 : run 5 11 = true := by kernel_rfl
theorem r6_11 : run 6 11 = true := by kernel_rfl
end Go.Proofs.YtfmjehkohlbebaaGreatDoor.topPiped
