/-
  Runs of TopStorm, by the kernel. No conditions.
-/
import Derived.Test.YtfmjehkohlbebaaGreatDoorStormD
import Derived.KernelRfl
set_option maxRecDepth 1000000
namespace Go.Proofs.YtfmjehkohlbebaaGreatDoor.topStorm
theorem r6_0 : run 6 0 49 = true := by kernel_rfl
theorem r6_50 : run 6 50 99 = true := by kernel_rfl
theorem r6_100 : run 6 100 149 = true := by kernel_rfl
theorem r6_150 : run 6 150 199 = true := by kernel_rfl
theorem r7_0 : run 7 0 49 = true := by kernel_rfl
theorem r7_50 : run 7 50 99 = true := by kernel_rfl
theorem r7_100 : run 7 100 149 = true := by kernel_rfl
theorem r7_150 : run 7 150 199 = true := by kernel_rfl
theorem r8_0 : run 8 0 49 = true := by kernel_rfl
theorem r8_50 : run 8 50 99 = true := by kernel_rfl
theorem r8_100 : run 8 100 149 = true := by kernel_rfl
theorem r8_150 : run 8 150 199 = true := by kernel_rfl
end Go.Proofs.YtfmjehkohlbebaaGreatDoor.topStorm
