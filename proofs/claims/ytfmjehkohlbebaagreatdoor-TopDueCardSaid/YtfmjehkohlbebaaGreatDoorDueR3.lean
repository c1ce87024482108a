/-
  Runs of TopDue, by the kernel. No conditions.
-/
import Derived.Test.YtfmjehkohlbebaaGreatDoorDueD
import Derived.KernelRfl
set_option maxRecDepth 1000000
namespace Go.Proofs.YtfmjehkohlbebaaGreatDoor.topDue
theorem r6_12 : run 6 12 = true := by kernel_rfl
theorem r6_13 : run 6 13 = true := by kernel_rfl
theorem r6_14 : run 6 14 = true := by kernel_rfl
theorem r6_15 : run 6 15 = true := by kernel_rfl
theorem r6_16 : run 6 16 = true := by kernel_rfl
theorem r6_17 : run 6 17 = true := by kernel_rfl
theorem r6_18 : run 6 18 = true := by kernel_rfl
theorem r6_19 : run 6 19 = true := by kernel_rfl
theorem r6_20 : run 6 20 = true := by kernel_rfl
theorem r6_21 : run 6 21 = true := by kernel_rfl
theorem r6_22 : run 6 22 = true := by kernel_rfl
theorem r6_23 : run 6 23 = true := by kernel_rfl
theorem r6_24 : run 6 24 = true := by kernel_rfl
theorem r6_25 : run 6 25 = true := by kernel_rfl
theorem r6_26 : run 6 26 = true := by kernel_rfl
theorem r6_27 : run 6 27 = true := by kernel_rfl
theorem r6_28 : run 6 28 = true := by kernel_rfl
end Go.Proofs.YtfmjehkohlbebaaGreatDoor.topDue
