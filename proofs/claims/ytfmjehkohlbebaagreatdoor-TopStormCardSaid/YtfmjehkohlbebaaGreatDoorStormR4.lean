/-
  Runs of TopStorm, by the kernel. No conditions.
-/
import Derived.Test.YtfmjehkohlbebaaGreatDoorStormD
import Derived.KernelRfl
set_option maxRecDepth 1000000
namespace Go.Proofs.YtfmjehkohlbebaaGreatDoor.topStorm
theorem r12_0 : run 12 0 49 = true := by kernel_rfl
theorem r12_50 : run 12 50 99 = true := by kernel_rfl
theorem r12_100 : run 12 100 149 = true := by kernel_rfl
theorem r12_150 : run 12 150 199 = true := by kernel_rfl
theorem r13_0 : run 13 0 49 = true := by kernel_rfl
theorem r13_50 : run 13 50 99 = true := by kernel_rfl
theorem r13_100 : run 13 100 149 = true := by kernel_rfl
theorem r13_150 : run 13 150 199 = true := by kernel_rfl
theorem r14_0 : run 14 0 49 = true := by kernel_rfl
theorem r14_50 : run 14 50 99 = true := by kernel_rfl
theorem r14_100 : run 14 100 149 = true := by kernel_rfl
theorem r14_150 : run 14 150 199 = true := by kernel_rfl
end Go.Proofs.YtfmjehkohlbebaaGreatDoor.topStorm
