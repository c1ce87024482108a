/-
  Runs of TopDue, by the kernel. No conditions.
-/
import Derived.Test.YtfmjehkohlbebaaGreatDoorDueD
import Derived.KernelRfl
set_option maxRecDepth 1000000
namespace Go.Proofs.YtfmjehkohlbebaaGreatDoor.topDue
theorem r6_65 : run 6 65 = true := by kernel_rfl
theorem r6_66 : run 6 66 = true := by kernel_rfl
theorem r6_67 : run 6 67 = true := by kernel_rfl
theorem r6_68 : run 6 68 = true := by kernel_rfl
theorem r6_69 : run 6 69 = true := by kernel_rfl
theorem r6_70 : run 6 70 = true := by kernel_rfl
theorem r6_71 : run 6 71 = true := by kernel_rfl
theorem r6_72 : run 6 72 = true := by kernel_rfl
theorem r6_73 : run 6 73 = true := by kernel_rfl
theorem r6_74 : run 6 74 = true := by kernel_rfl
theorem r6_75 : run 6 75 = true := by kernel_rfl
theorem r6_76 : run 6 76 = true := by kernel_rfl
theorem r6_77 : run 6 77 = true := by kernel_rfl
theorem r6_78 : run 6 78 = true := by kernel_rfl
theorem r6_79 : run 6 79 = true := by kernel_rfl
theorem r6_80 : run 6 80 = true := by kernel_rfl
theorem r6_81 : run 6 81 = true := by kernel_rfl
end Go.Proofs.YtfmjehkohlbebaaGreatDoor.topDue
