/-
  Runs of TopDue, by the kernel. No conditions.
-/
import Derived.Test.YtfmjehkohlbebaaGreatDoorDueD
import Derived.KernelRfl
set_option maxRecDepth 1000000
namespace Go.Proofs.YtfmjehkohlbebaaGreatDoor.topDue
theorem r6_135 : run 6 135 = true := by kernel_rfl
theorem r6_136 : run 6 136 = true := by kernel_rfl
theorem r6_137 : run 6 137 = true := by kernel_rfl
theorem r6_138 : run 6 138 = true := by kernel_rfl
theorem r6_139 : run 6 139 = true := by kernel_rfl
theorem r6_140 : run 6 140 = true := by kernel_rfl
theorem r6_141 : run 6 141 = true := by kernel_rfl
theorem r6_142 : run 6 142 = true := by kernel_rfl
theorem r6_143 : run 6 143 = true := by kernel_rfl
theorem r6_144 : run 6 144 = true := by kernel_rfl
theorem r6_145 : run 6 145 = true := by kernel_rfl
theorem r6_146 : run 6 146 = true := by kernel_rfl
theorem r6_147 : run 6 147 = true := by kernel_rfl
theorem r6_148 : run 6 148 = true := by kernel_rfl
theorem r6_149 : run 6 149 = true := by kernel_rfl
theorem r6_150 : run 6 150 = true := by kernel_rfl
theorem r6_151 : run 6 151 = true := by kernel_rfl
theorem r6_152 : run 6 152 = true := by kernel_rfl
end Go.Proofs.YtfmjehkohlbebaaGreatDoor.topDue
