/-
  Runs of TopDue, by the kernel. No conditions.
-/
import Derived.Test.YtfmjehkohlbebaaGreatDoorDueD
import Derived.KernelRfl
set_option maxRecDepth 1000000
namespace Go.Proofs.YtfmjehkohlbebaaGreatDoor.topDue
theorem r6_117 : run 6 117 = true := by kernel_rfl
theorem r6_118 : run 6 118 = true := by kernel_rfl
theorem r6_119 : run 6 119 = true := by kernel_rfl
theorem r6_120 : run 6 120 = true := by kernel_rfl
theorem r6_121 : run 6 121 = true := by kernel_rfl
theorem r6_122 : run 6 122 = true := by kernel_rfl
theorem r6_123 : run 6 123 = true := by kernel_rfl
theorem r6_124 : run 6 124 = true := by kernel_rfl
theorem r6_125 : run 6 125 = true := by kernel_rfl
theorem r6_126 : run 6 126 = true := by kernel_rfl
theorem r6_127 : run 6 127 = true := by kernel_rfl
theorem r6_128 : run 6 128 = true := by kernel_rfl
theorem r6_129 : run 6 129 = true := by kernel_rfl
theorem r6_130 : run 6 130 = true := by kernel_rfl
theorem r6_131 : run 6 131 = true := by kernel_rfl
theorem r6_132 : run 6 132 = true := by kernel_rfl
theorem r6_133 : run 6 133 = true := by kernel_rfl
theorem r6_134 : run 6 134 = true := by kernel_rfl
end Go.Proofs.YtfmjehkohlbebaaGreatDoor.topDue
