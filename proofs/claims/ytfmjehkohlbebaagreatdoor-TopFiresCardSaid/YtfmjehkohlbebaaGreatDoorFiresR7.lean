/-
  Runs of TopFires, by the kernel. No conditions.
-/
import Derived.Test.YtfmjehkohlbebaaGreatDoorFiresD
import Derived.KernelRfl
set_option maxRecDepth 1000000
namespace Go.Proofs.YtfmjehkohlbebaaGreatDoor.topFires
theorem r174 : run 174 176 = true := by kernel_rfl
theorem r177 : run 177 179 = true := by kernel_rfl
theorem r180 : run 180 182 = true := by kernel_rfl
theorem r183 : run 183 185 = true := by kernel_rfl
theorem r186 : run 186 188 = true := by kernel_rfl
theorem r189 : run 189 191 = true := by kernel_rfl
theorem r192 : run 192 194 = true := by kernel_rfl
theorem r195 : run 195 197 = true := by kernel_rfl
theorem r198 : run 198 198 = true := by kernel_rfl
end Go.Proofs.YtfmjehkohlbebaaGreatDoor.topFires
