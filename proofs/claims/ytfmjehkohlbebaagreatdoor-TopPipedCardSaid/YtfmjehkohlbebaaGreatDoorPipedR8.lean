/-
  Runs of TopPiped, by the kernel. No conditions.
-/
import Derived.Test.YtfmjehkohlbebaaGreatDoorPipedD
import Derived.KernelRfl
set_option maxRecDepth 1000000
namespace Go.Proofs.YtfmjehkohlbebaaGreatDoor.topPiped
theorem zn8 : runZ .nils 8 = true := by kernel_rfl
theorem ze8 : runZ .emp 8 = true := by kernel_rfl
theorem r1_8 : run 1 8 = true := by kernel_rfl
theorem r2_8 : run 2 8 = true := by kernel_rfl
theorem r3_8 : run 3 8 = true := by kernel_rfl
theorem r4_8 : run 4 8 = true := by kernel_rfl
theorem r5_8 : run 5 8 = true := by kernel_rfl
theorem r6_8 : run 6 8 = true := by kernel_rfl
end Go.Proofs.YtfmjehkohlbebaaGreatDoor.topPiped
