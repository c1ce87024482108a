/-
  Runs of TopFires, by the kernel. No conditions.
-/
import Derived.Test.YtfmjehkohlbebaaGreatDoorFiresD
import Derived.KernelRfl
set_option maxRecDepth 1000000
namespace Go.Proofs.YtfmjehkohlbebaaGreatDoor.topFires
theorem r75 : run 75 77 = true := by kernel_rfl
theorem r78 : run 78 80 = true := by kernel_rfl
theorem r81 : run 81 83 = true := by kernel_rfl
theorem r84 : run 84 86 = true := by kernel_rfl
theorem r87 : run 87 89 = true := by kernel_rfl
theorem r90 : run 90 92 = true := by kernel_rfl
theorem r93 : run 93 95 = true := by kernel_rfl
theorem r96 : run 96 98 = true := by kernel_rfl
end Go.Proofs.YtfmjehkohlbebaaGreatDoor.topFires
