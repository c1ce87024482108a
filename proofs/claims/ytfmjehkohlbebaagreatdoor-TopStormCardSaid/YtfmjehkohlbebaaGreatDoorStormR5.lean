/-
  Runs of TopStorm, by the kernel. No conditions.
-/
import Derived.Test.YtfmjehkohlbebaaGreatDoorStormD
import Derived.KernelRfl
set_option maxRecDepth 1000000
namespace Go.Proofs.YtfmjehkohlbebaaGreatDoor.topStorm
theorem r15_0 : run 15 0 49 = true := by kernel_rfl
theorem r15_50 : run 15 50 99 = true := by kernel_rfl
theorem r15_100 : run 15 100 149 = true := by kernel_rfl
theorem r15_150 : run 15 150 199 = true := by kernel_rfl
theorem r16_0 : run 16 0 49 = true := by kernel_rfl
theorem r16_50 : run 16 50 99 = true := by kernel_rfl
theorem r16_100 : run 16 100 149 = true := by kernel_rfl
theorem r16_150 : run 16 150 199 = true := by kernel_rfl
theorem r17_0 : run 17 0 49 = true := by kernel_rfl
theorem r17_50 : run 17 50 99 = true := by kernel_rfl
theorem r17_100 : run 17 100 149 = true := by kernel_rfl
theorem r17_150 : run 17 150 199 = true := by kernel_rfl
end Go.Proofs.YtfmjehkohlbebaaGreatDoor.topStorm
