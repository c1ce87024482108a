/-
  Runs of TopDue, by the kernel. No conditions.
-/
import Derived.Test.YtfmjehkohlbebaaGreatDoorDueD
import Derived.KernelRfl
set_option maxRecDepth 1000000
namespace Go.Proofs.YtfmjehkohlbebaaGreatDoor.topDue
theorem r6_153 : run 6 153 = true := by kernel_rfl
theorem r6_154 : run 6 154 = true := by kernel_rfl
theorem r6_155 : run 6 155 = true := by kernel_rfl
theorem r6_156 : run 6 156 = true := by kernel_rfl
theorem r6_157 : run 6 157 = true := by kernel_rfl
theorem r6_158 : run 6 158 = true := by kernel_rfl
theorem r6_159 : run 6 159 = true := by kernel_rfl
theorem r6_160 : run 6 160 = true := by kernel_rfl
theorem r6_161 : run 6 161 = true := by kernel_rfl
theorem r6_162 : run 6 162 = true := by kernel_rfl
theorem r6_163 : run 6 163 = true := by kernel_rfl
theorem r6_164 : run 6 164 = true := by kernel_rfl
theorem r6_165 : run 6 165 = true := by kernel_rfl
theorem r6_166 : run 6 166 = true := by kernel_rfl
theorem r6_167 : run 6 167 = true := by kernel_rfl
theorem r6_168 : run 6 168 = true := by kernel_rfl
theorem r6_169 : run 6 169 = true := by kernel_rfl
end Go.Proofs.YtfmjehkohlbebaaGreatDoor.topDue
