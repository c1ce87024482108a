/-
  Runs of TopDue, by the kernel. No conditions.
-/
import Derived.Test.YtfmjehkohlbebaaGreatDoorDueD
import Derived.KernelRfl
set_option maxRecDepth 1000000
namespace Go.Proofs.YtfmjehkohlbebaaGreatDoor.topDue
theorem zn : runZ .nils = true := by kernel_rfl
theorem ze : runZ .emp = true := by kernel_rfl
theorem r1_0 : run 1 0 = true := by kernel_rfl
theorem r2_0 : run 2 0 = true := by kernel_rfl
theorem r3_0 : run 3 0 = true := by kernel_rfl
theorem r3_1 : run 3 1 = true := by kernel_rfl
theorem r4_0 : run 4 0 = true := by kernel_rfl
theorem r4_1 : run 4 1 = true := by kernel_rfl
theorem r4_2 : run 4 2 = true := by kernel_rfl
theorem r4_3 : run 4 3 = true := by kernel_rfl
theorem r4_4 : run 4 4 = true := by kernel_rfl
theorem r4_5 : run 4 5 = true := by kernel_rfl
theorem r4_6 : run 4 6 = true := by kernel_rfl
theorem r4_7 : run 4 7 = true := by kernel_rfl
theorem r5_0 : run 5 0 = true := by kernel_rfl
theorem r5_1 : run 5 1 = true := by kernel_rfl
theorem r5_2 : run 5 2 = true := by kernel_rfl
theorem r5_3 : run 5 3 = true := by kernel_rfl
theorem r5_4 : run 5 4 = true := by kernel_rfl
theorem r5_5 : run 5 5 = true := by kernel_rfl
theorem r5_6 : run 5 6 = true := by kernel_rfl
theorem r5_7 : run 5 7 = true := by kernel_rfl
theorem r5_8 : run 5 8 = true := by kernel_rfl
theorem r5_9 : run 5 9 = true := by kernel_rfl
theorem r5_10 : run 5 10 = true := by kernel_rfl
theorem r5_11 : run 5 11 = true := by kernel_rfl
theorem r5_12 : run 5 12 = true := by kernel_rfl
end Go.Proofs.YtfmjehkohlbebaaGreatDoor.topDue
