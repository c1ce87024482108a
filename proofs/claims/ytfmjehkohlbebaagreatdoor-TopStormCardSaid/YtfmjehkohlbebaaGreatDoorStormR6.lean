/-
  Runs of TopStorm, by the kernel. No conditions.
-/
import Derived.Test.YtfmjehkohlbebaaGreatDoorStormD
import Derived.KernelRfl
set_option maxRecDepth 1000000
namespace Go.Proofs.YtfmjehkohlbebaaGreatDoor.topStorm
theorem r18_0 : run 18 0 49 = true := by kernel_rfl
theorem r18_50 : run 18 50 99 = true := by kernel_rfl
theorem r18_100 : run 18 100 149 = true := by kernel_rfl
theorem r18_150 : run 18 150 199 = true := by kernel_rfl
theorem r19_0 : run 19 0 49 = true := by kernel_rfl
theorem r19_50 : run 19 50 99 = true := by kernel_rfl
theorem r19_100 : run 19 100 149 = true := by kernel_rfl
theorem r19_150 : run 19 150 199 = true := by kernel_rfl
theorem r20_0 : run 20 0 49 = true := by kernel_rfl
theorem r20_50 : run 20 50 99 = true := by kernel_rfl
theorem r20_100 : run 20 100 149 = true := by kernel_rfl
theorem r20_150 : run 20 150 199 = true := by kernel_rfl
end Go.Proofs.YtfmjehkohlbebaaGreatDoor.topStorm
