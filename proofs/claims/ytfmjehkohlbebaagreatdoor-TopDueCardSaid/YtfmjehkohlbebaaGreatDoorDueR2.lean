/-
  Runs of TopDue, by the kernel. No conditions.
-/
import Derived.Test.YtfmjehkohlbebaaGreatDoorDueD
import Derived.KernelRfl
set_option maxRecDepth 1000000
namespace Go.Proofs.YtfmjehkohlbebaaGreatDoor.topDue
theorem r5_33 : run 5 33 = true := by kernel_rfl
theorem r5_34 : run 5 34 = true := by kernel_rfl
theorem r5_35 : run 5 35 = true := by kernel_rfl
theorem r5_36 : run 5 36 = true := by kernel_rfl
theorem r5_37 : run 5 37 = true := by kernel_rfl
theorem r5_38 : run 5 38 = true := by kernel_rfl
theorem r5_39 : run 5 39 = true := by kernel_rfl
theorem r6_0 : run 6 0 = true := by kernel_rfl
theorem r6_1 : run 6 1 = true := by kernel_rfl
theorem r6_2 : run 6 2 = true := by kernel_rfl
theorem r6_3 : run 6 3 = true := by kernel_rfl
theorem r6_4 : run 6 4 = true := by kernel_rfl
theorem r6_5 : run 6 5 = true := by kernel_rfl
theorem r6_6 : run 6 6 = true := by kernel_rfl
theorem r6_7 : run 6 7 = true := by kernel_rfl
theorem r6_8 : run 6 8 = true := by kernel_rfl
theorem r6_9 : run 6 9 = true := by kernel_rfl
theorem r6_10 : run 6 10 = true := by kernel_rfl
theorem r6_11 : run 6 11 = true := by kernel_rfl
end Go.Proofs.YtfmjehkohlbebaaGreatDoor.topDue
