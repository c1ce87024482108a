/-
  Runs of TopStorm, by the kernel. No conditions.
-/
import Derived.Test.YtfmjehkohlbebaaGreatDoorStormD
import Derived.KernelRfl
set_option maxRecDepth 1000000
namespace Go.Proofs.YtfmjehkohlbebaaGreatDoor.topStorm
theorem r27_0 : run 27 0 49 = true := by kernel_rfl
theorem r27_50 : run 27 50 99 = true := by kernel_rfl
theorem r27_100 : run 27 100 149 = true := by kernel_rfl
theorem r27_150 : run 27 150 199 = true := by kernel_rfl
theorem r28_0 : run 28 0 49 = true := by kernel_rfl
theorem r28_50 : run 28 50 99 = true := by kernel_rfl
theorem r28_100 : run 28 100 149 = true := by kernel_rfl
theorem r28_150 : run 28 150 199 = true := by kernel_rfl
theorem r29_0 : run 29 0 49 = true := by kernel_rfl
theorem r29_50 : run 29 50 99 = true := by kernel_rfl
theorem r29_100 : run 29 100 149 = true := by kernel_rfl
theorem r29_150 : run 29 150 199 = true := by kernel_rfl
end Go.Proofs.YtfmjehkohlbebaaGreatDoor.topStorm
