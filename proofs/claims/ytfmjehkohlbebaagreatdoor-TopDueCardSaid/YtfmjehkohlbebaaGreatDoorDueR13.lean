/-
  Runs of TopDue, by the kernel. No conditions.
-/
import Derived.Test.YtfmjehkohlbebaaGreatDoorDueD
import Derived.KernelRfl
set_option maxRecDepth 1000000
namespace Go.Proofs.YtfmjehkohlbebaaGreatDoor.topDue
theorem r6_188 : run 6 188 = true := by kernel_rfl
theorem r6_189 : run 6 189 = true := by kernel_rfl
theorem r6_190 : run 6 190 = true := by kernel_rfl
theorem r6_191 : run 6 191 = true := by kernel_rfl
theorem r6_192 : run 6 192 = true := by kernel_rfl
theorem r6_193 : run 6 193 = true := by kernel_rfl
theorem r6_194 : run 6 194 = true := by kernel_rfl
theorem r6_195 : run 6 195 = true := by kernel_rfl
theorem r6_196 : run 6 196 = true := by kernel_rfl
theorem r6_197 : run 6 197 = true := by kernel_rfl
theorem r6_198 : run 6 198 = true := by kernel_rfl
theorem r6_199 : run 6 199 = true := by kernel_rfl
theorem r6_200 : run 6 200 = true := by kernel_rfl
theorem r6_201 : run 6 201 = true := by kernel_rfl
theorem r6_202 : run 6 202 = true := by kernel_rfl
theorem r6_203 : run 6 203 = true := by kernel_rfl
theorem r6_204 : run 6 204 = true := by kernel_rfl
end Go.Proofs.YtfmjehkohlbebaaGreatDoor.topDue
