/-
  Runs of TopDue, by the kernel. No conditions.
-/
import Derived.Test.YtfmjehkohlbebaaGreatDoorDueD
import Derived.KernelRfl
set_option maxRecDepth 1000000
namespace Go.Proofs.YtfmjehkohlbebaaGreatDoor.topDue
theorem r5_13 : run 5 13 = true := by kernel_rfl
theorem r5_14 : run 5 14 = true := by kernel_rfl
theorem r5_15 : run 5 15 = true := by kernel_rfl
theorem r5_16 : run 5 16 = true := by kernel_rfl
theorem r5_17 : run 5 17 = true := by kernel_rfl
theorem r5_18 : run 5 18 = true := by kernel_rfl
theorem r5_19 : run 5 19 = true := by kernel_rfl
theorem r5_20 : run 5 20 = true := by kernel_rfl
theorem r5_21 : run 5 21 = true := by kernel_rfl
theorem r5_22 : run 5 22 = true := by kernel_rfl
theorem r5_23 : run 5 23 = true := by kernel_rfl
theorem r5_24 : run 5 24 = true := by kernel_rfl
theorem r5_25 : run 5 25 = true := by kernel_rfl
theorem r5_26 : run 5 26 = true := by kernel_rfl
theorem r5_27 : run 5 27 = true := by kernel_rfl
theorem r5_28 : run 5 28 = true := by kernel_rfl
theorem r5_29 : run 5 29 = true := by kernel_rfl
theorem r5_30 : run 5 30 = true := by kernel_rfl
theorem r5_31 : run 5 31 = true := by kernel_rfl
theorem r5_32 : run 5 32 = true := by kernel_rfl
end Go.Proofs.YtfmjehkohlbebaaGreatDoor.topDue
