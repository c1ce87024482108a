/-
  Runs of TopDue, by the kernel. No conditions.
-/
import Derived.Test.YtfmjehkohlbebaaGreatDoorDueD
import Derived.KernelRfl
set_option maxRecDepth 1000000
namespace Go.Proofs.YtfmjehkohlbebaaGreatDoor.topDue
theorem r6_29 : run 6 29 = true := by kernel_rfl
theorem r6_30 : run 6 30 = true := by kernel_rfl
theorem r6_31 : run 6 31 = true := by kernel_rfl
theorem r6_32 : run 6 32 = true := by kernel_rfl
theorem r6_33 : run 6 33 = true := by kernel_rfl
theorem r6_34 : run 6 34 = true := by kernel_rfl
theorem r6_35 : run 6 35 = true := by kernel_rfl
theorem r6_36 : run 6 36 = true := by kernel_rfl
theorem r6_37 : run 6 37 = true := by kernel_rfl
theorem r6_38 : run 6 38 = true := by kernel_rfl
theorem r6_39 : run 6 39 = true := by kernel_rfl
theorem r6_40 : run 6 40 = true := by kernel_rfl
theorem r6_41 : run 6 41 = true := by kernel_rfl
theorem r6_42 : run 6 42 = true := by kernel_rfl
theorem r6_43 : run 6 43 = true := by kernel_rfl
theorem r6_44 : run 6 44 = true := by kernel_rfl
theorem r6_45 : run 6 45 = true := by kernel_rfl
theorem r6_46 : run 6 46 = true := by kernel_rfl
end Go.Proofs.YtfmjehkohlbebaaGreatDoor.topDue
