/-
  Runs of TopDue, by the kernel. No conditions.
-/
import Derived.Test.YtfmjehkohlbebaaGreatDoorDueD
import Derived.KernelRfl
set_option maxRecDepth 1000000
namespace Go.Proofs.YtfmjehkohlbebaaGreatDoor.topDue
theorem r6_100 : run 6 100 = true := by kernel_rfl
theorem r6_101 : run 6 101 = true := by kernel_rfl
theorem r6_102 : run 6 102 = true := by kernel_rfl
theorem r6_103 : run 6 103 = true := by kernel_rfl
theorem r6_104 : run 6 104 = true := by kernel_rfl
theorem r6_105 : run 6 105 = true := by kernel_rfl
theorem r6_106 : run 6 106 = true := by kernel_rfl
theorem r6_107 : run 6 107 = true := by kernel_rfl
theorem r6_108 : run 6 108 = true := by kernel_rfl
theorem r6_109 : run 6 109 = true := by kernel_rfl
theorem r6_110 : run 6 110 = true := by kernel_rfl
theorem r6_111 : run 6 111 = true := by kernel_rfl
theorem r6_112 : run 6 112 = true := by kernel_rfl
theorem r6_113 : run 6 113 = true := by kernel_rfl
theorem r6_114 : run 6 114 = true := by kernel_rfl
theorem r6_115 : run 6 115 = true := by kernel_rfl
theorem r6_116 : run 6 116 = true := by kernel_rfl
end Go.Proofs.YtfmjehkohlbebaaGreatDoor.topDue
