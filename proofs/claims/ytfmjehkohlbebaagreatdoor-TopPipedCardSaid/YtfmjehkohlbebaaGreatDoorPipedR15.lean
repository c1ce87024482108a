/-
  Runs of TopPiped, by the kernel. No conditions.
-/
import Derived.Test.YtfmjehkohlbebaaGreatDoorPipedD
import Derived.KernelRfl
set_option maxRecDepth 1000000
namespace Go.Proofs.YtfmjehkohlbebaaGreatDoor.topPiped
theorem zn15 : runZ .nils 15 = true := by kernel_rfl
theorem ze15 : runZ .emp 15 = true := by kernel_rfl
theorem r1_15 : run 1 15 = true := by kernel_rfl
theorem r2_15 : run 2 15 = true := by kernel_rfl
theorem r3_15 : run 3 15 = true := by kernel_rfl
theorem r4_15 : run 4 15 = true := by kernel_rfl
theorem r5_15 : run 5 15 = true := by kernel_rfl
theorem r6_15 : run 6 15 = true := by kernel_rfl
end Go.Proofs.YtfmjehkohlbebaaGreatDoor.topPiped
