/-
  Runs of TopStorm, by the kernel. No conditions.
-/
import Derived.Test.YtfmjehkohlbebaaGreatDoorStormD
import Derived.KernelRfl
set_option maxRecDepth 1000000
namespace Go.Proofs.YtfmjehkohlbebaaGreatDoor.topStorm
theorem r21_0 : run 21 0 49 = true := by kernel_rfl
theorem r21_50 : run 21 50 99 = true := by kernel_rfl
theorem r21_100 : run 21 100 149 = true := by kernel_rfl
theorem r21_150 : run 21 150 199 = true := by kernel_rfl
theorem r22_0 : run 22 0 49 = true := by kernel_rfl
theorem r22_50 : run 22 50 99 = true := by kernel_rfl
theorem r22_100 : run 22 100 149 = true := by kernel_rfl
theorem r22_150 : run 22 150 199 = true := by kernel_rfl
theorem r23_0 : run 23 0 49 = true := by kernel_rfl
theorem r23_50 : run 23 50 99 = true := by kernel_rfl
theorem r23_100 : run 23 100 149 = true := by kernel_rfl
theorem r23_150 : run 23 150 199 = true := by kernel_rfl
end Go.Proofs.YtfmjehkohlbebaaGreatDoor.topStorm
