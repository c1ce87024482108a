/-
  Runs of TopPiped, by the kernel. No conditions.
-/
import Derived.Test.YtfmjehkohlbebaaGreatDoorPipedD
import Derived.KernelRfl
set_option maxRecDepth 1000000
namespace Go.Proofs.YtfmjehkohlbebaaGreatDoor.topPiped
theorem zn10 : runZ .nils 10 = true := by kernel_rfl
theorem ze10 : runZ .emp 10 = true := by kernel_rfl
theorem r1_10 : run 1 10 = true := by kernel_rfl
theorem r2_10 : run 2 10 = true := by kernel_rfl
theorem r3_10 : run 3 10 = true := by kernel_rfl
theorem r4_10 : run 4 10 = true := by kernel_rfl
theorem r5_10 : run 5 10 = true := by kernel_rfl
theorem r6_10 : run 6 10 = true := by kernel_rfl
end Go.Proofs.YtfmjehkohlbebaaGreatDoor.topPiped
