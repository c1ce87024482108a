/-
  Runs of TopStorm, by the kernel. No conditions.
-/
import Derived.Test.YtfmjehkohlbebaaGreatDoorStormD
import Derived.KernelRfl
set_option maxRecDepth 1000000
namespace Go.Proofs.YtfmjehkohlbebaaGreatDoor.topStorm
theorem r3_0 : run 3 0 49 = true := by kernel_rfl
theorem r3_50 : run 3 50 99 = true := by kernel_rfl
theorem r3_100 : run 3 100 149 = true := by kernel_rfl
theorem r3_150 : run 3 150 199 = true := by kernel_rfl
theorem r4_0 : run 4 0 49 = true := by kernel_rfl
theorem r4_50 : run 4 50 99 = true := by kernel_rfl
theorem r4_100 : run 4 100 149 = true := by kernel_rfl
theorem r4_150 : run 4 150 199 = true := by kernel_rfl
theorem r5_0 : run 5 0 49 = true := by kernel_rfl
theorem r5_50 : run 5 50 99 = true := by kernel_rfl
theorem r5_100 : run 5 100 149 = true := by kernel_rfl
theorem r5_150 : run 5 150 199 = true := by kernel_rfl
end Go.Proofs.YtfmjehkohlbebaaGreatDoor.topStorm
