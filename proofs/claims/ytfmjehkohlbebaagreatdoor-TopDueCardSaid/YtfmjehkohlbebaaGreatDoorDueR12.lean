/-
  Runs of TopDue, by the kernel. No conditions.
-/
import Derived.Test.YtfmjehkohlbebaaGreatDoorDueD
import Derived.KernelRfl
set_option maxRecDepth 1000000
namespace Go.Proofs.YtfmjehkohlbebaaGreatDoor.topDue
theorem r6_170 : run 6 170 = true := by kernel_rfl
theorem r6_171 : run 6 171 = true := by kernel_rfl
theorem r6_172 : run 6 172 = true := by kernel_rfl
theorem r6_173 : run 6 173 = true := by kernel_rfl
theorem r6_174 : run 6 174 = true := by kernel_rfl
theorem r6_175 : run 6 175 = true := by kernel_rfl
theorem r6_176 : run 6 176 = true := by kernel_rfl
theorem r6_177 : run 6 177 = true := by kernel_rfl
theorem r6_178 : run 6 178 = true := by kernel_rfl
theorem r6_179 : run 6 179 = true := by kernel_rfl
theorem r6_180 : run 6 180 = true := by kernel_rfl
theorem r6_181 : run 6 181 = true := by kernel_rfl
theorem r6_182 : run 6 182 = true := by kernel_rfl
theorem r6_183 : run 6 183 = true := by kernel_rfl
theorem r6_184 : run 6 184 = true := by kernel_rfl
theorem r6_185 : run 6 185 = true := by kernel_rfl
theorem r6_186 : run 6 186 = true := by kernel_rfl
theorem r6_187 : run 6 187 = true := by kernel_rfl
end Go.Proofs.YtfmjehkohlbebaaGreatDoor.topDue
