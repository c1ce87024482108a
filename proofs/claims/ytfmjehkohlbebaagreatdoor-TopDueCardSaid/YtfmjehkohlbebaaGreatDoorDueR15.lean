/-
  Runs of TopDue, by the kernel. No conditions.
-/
import Derived.Test.YtfmjehkohlbebaaGreatDoorDueD
import Derived.KernelRfl
set_option maxRecDepth 1000000
namespace Go.Proofs.YtfmjehkohlbebaaGreatDoor.topDue
theorem r6_223 : run 6 223 = true := by kernel_rfl
theorem r6_224 : run 6 224 = true := by kernel_rfl
theorem r6_225 : run 6 225 = true := by kernel_rfl
theorem r6_226 : run 6 226 = true := by kernel_rfl
theorem r6_227 : run 6 227 = true := by kernel_rfl
theorem r6_228 : run 6 228 = true := by kernel_rfl
theorem r6_229 : run 6 229 = true := by kernel_rfl
theorem r6_230 : run 6 230 = true := by kernel_rfl
theorem r6_231 : run 6 231 = true := by kernel_rfl
theorem r6_232 : run 6 232 = true := by kernel_rfl
theorem r6_233 : run 6 233 = true := by kernel_rfl
theorem r6_234 : run 6 234 = true := by kernel_rfl
theorem r6_235 : run 6 235 = true := by kernel_rfl
theorem r6_236 : run 6 236 = true := by kernel_rfl
theorem r6_237 : run 6 237 = true := by kernel_rfl
theorem r6_238 : run 6 238 = true := by kernel_rfl
theorem r6_239 : run 6 239 = true := by kernel_rfl
end Go.Proofs.YtfmjehkohlbebaaGreatDoor.topDue
