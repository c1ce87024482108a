/-
  Runs of TopStorm, by the kernel. No conditions.
-/
import Derived.Test.YtfmjehkohlbebaaGreatDoorStormD
import Derived.KernelRfl
set_option maxRecDepth 1000000
namespace Go.Proofs.YtfmjehkohlbebaaGreatDoor.topStorm
theorem r24_0 : run 24 0 49 = true := by kernel_rfl
theorem r24_50 : run 24 50 99 = true := by kernel_rfl
theorem r24_100 : run 24 100 149 = true := by kernel_rfl
theorem r24_150 : run 24 150 199 = true := by kernel_rfl
theorem r25_0 : run 25 0 49 = true := by kernel_rfl
theorem r25_50 : run 25 50 99 = true := by kernel_rfl
theorem r25_100 : run 25 100 149 = true := by kernel_rfl
theorem r25_150 : run 25 150 199 = true := by kernel_rfl
theorem r26_0 : run 26 0 49 = true := by kernel_rfl
theorem r26_50 : run 26 50 99 = true := by kernel_rfl
theorem r26_100 : run 26 100 149 = true := by kernel_rfl
theorem r26_150 : run 26 150 199 = true := by kernel_rfl
end Go.Proofs.YtfmjehkohlbebaaGreatDoor.topStorm
