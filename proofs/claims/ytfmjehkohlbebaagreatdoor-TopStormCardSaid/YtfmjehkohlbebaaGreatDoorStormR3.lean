/-
  Runs of TopStorm, by the kernel. No conditions.
-/
import Derived.Test.YtfmjehkohlbebaaGreatDoorStormD
import Derived.KernelRfl
set_option maxRecDepth 1000000
namespace Go.Proofs.YtfmjehkohlbebaaGreatDoor.topStorm
theorem r9_0 : run 9 0 49 = true := by kernel_rfl
theorem r9_50 : run 9 50 99 = true := by kernel_rfl
theorem r9_100 : run 9 100 149 = true := by kernel_rfl
theorem r9_150 : run 9 150 199 = true := by kernel_rfl
theorem r10_0 : run 10 0 49 = true := by kernel_rfl
theorem r10_50 : run 10 50 99 = true := by kernel_rfl
theorem r10_100 : run 10 100 149 = true := by kernel_rfl
theorem r10_150 : run 10 150 199 = true := by kernel_rfl
theorem r11_0 : run 11 0 49 = true := by kernel_rfl
theorem r11_50 : run 11 50 99 = true := by kernel_rfl
theorem r11_100 : run 11 100 149 = true := by kernel_rfl
theorem r11_150 : run 11 150 199 = true := by kernel_rfl
end Go.Proofs.YtfmjehkohlbebaaGreatDoor.topStorm
