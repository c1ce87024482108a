/-
  Runs of TopDue, by the kernel. No conditions.
-/
import Derived.Test.YtfmjehkohlbebaaGreatDoorDueD
import Derived.KernelRfl
set_option maxRecDepth 1000000
namespace Go.Proofs.YtfmjehkohlbebaaGreatDoor.topDue
theorem r6_205 : run 6 205 = true := by kernel_rfl
theorem r6_206 : run 6 206 = true := by kernel_rfl
theorem r6_207 : run 6 207 = true := by kernel_rfl
theorem r6_208 : run 6 208 = true := by kernel_rfl
theorem r6_209 : run 6 209 = true := by kernel_rfl
theorem r6_210 : run 6 210 = true := by kernel_rfl
theorem r6_211 : run 6 211 = true := by kernel_rfl
theorem r6_212 : run 6 212 = true := by kernel_rfl
theorem r6_213 : run 6 213 = true := by kernel_rfl
theorem r6_214 : run 6 214 = true := by kernel_rfl
theorem r6_215 : run 6 215 = true := by kernel_rfl
theorem r6_216 : run 6 216 = true := by kernel_rfl
theorem r6_217 : run 6 217 = true := by kernel_rfl
theorem r6_218 : run 6 218 = true := by kernel_rfl
theorem r6_219 : run 6 219 = true := by kernel_rfl
theorem r6_220 : run 6 220 = true := by kernel_rfl
theorem r6_221 : run 6 221 = true := by kernel_rfl
theorem r6_222 : run 6 222 = true := by kernel_rfl
end Go.Proofs.YtfmjehkohlbebaaGreatDoor.topDue
