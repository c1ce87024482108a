/-
  Runs of TopStorm, by the kernel. No conditions.
-/
import Derived.Test.YtfmjehkohlbebaaGreatDoorStormD
import Derived.KernelRfl
set_option maxRecDepth 1000000
namespace Go.Proofs.YtfmjehkohlbebaaGreatDoor.topStorm
theorem r0_0 : run 0 0 49 = true := by kernel_rfl
theorem r0_50 : run 0 50 99 = true := by kernel_rfl
theorem r0_100 : run 0 100 149 = true := by kernel_rfl
theorem r0_150 : run 0 150 199 = true := by kernel_rfl
theorem r1_0 : run 1 0 49 = true := by kernel_rfl
theorem r1_50 : run 1 50 99 = true := by kernel_rfl
theorem r1_100 : run 1 100 149 = true := by kernel_rfl
theorem r1_150 : run 1 150 199 = true := by kernel_rfl
theorem r2_0 : run 2 0 49 = true := by kernel_rfl
theorem r2_50 : run 2 50 99 = true := by kernel_rfl
theorem r2_100 : run 2 100 149 = true := by kernel_rfl
theorem r2_150 : run 2 150 199 = true := by kernel_rfl
end Go.Proofs.YtfmjehkohlbebaaGreatDoor.topStorm
