/-
  Runs of TopPiped, by the kernel. No conditions.
-/
import Derived.Test.YtfmjehkohlbebaaGreatDoorPipedD
import Derived.KernelRfl
set_option maxRecDepth 1000000
namespace Go.Proofs.YtfmjehkohlbebaaGreatDoor.topPiped
theorem zn7 : runZ .nils 7 = true := by kernel_rfl
theorem ze7 : runZ .emp 7 = true := by kernel_rfl
theorem r1_7 : run 1 7 = true := by kernel_rfl
theorem r2_7 : run 2 7 = true := by kernel_rfl
theorem r3_7 : run 3 7 = true := by kernel_rfl
theorem r4_7 : run 4 7 = true := by kernel_rfl
theorem r5_7 : run 5 7 = true := by kernel_rfl
theorem r6_7 : run 6 7 = true := by kernel_rfl
end Go.Proofs.YtfmjehkohlbebaaGreatDoor.topPiped
