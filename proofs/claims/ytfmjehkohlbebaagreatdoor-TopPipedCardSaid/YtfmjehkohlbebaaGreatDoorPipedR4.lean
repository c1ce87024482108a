/-
  Runs of TopPiped, by the kernel. No conditions.
-/
import Derived.Test.YtfmjehkohlbebaaGreatDoorPipedD
import Derived.KernelRfl
set_option maxRecDepth 1000000
namespace Go.Proofs.YtfmjehkohlbebaaGreatDoor.topPiped
theorem zn4 : runZ .nils 4 = true := by kernel_rfl
theorem ze4 : runZ .emp 4 = true := by kernel_rfl
theorem r1_4 : run 1 4 = true := by kernel_rfl
theorem r2_4 : run 2 4 = true := by kernel_rfl
theorem r3_4 : run 3 4 = true := by kernel_rfl
theorem r4_4 : run 4 4 = true := by kernel_rfl
theorem r5_4 : run 5 4 = true := by kernel_rfl
theorem r6_4 : run 6 4 = true := by kernel_rfl
end Go.Proofs.YtfmjehkohlbebaaGreatDoor.topPiped
