/-
  Runs of TopFires, by the kernel. No conditions.
-/
import Derived.Test.YtfmjehkohlbebaaGreatDoorFiresD
import Derived.KernelRfl
set_option maxRecDepth 1000000
namespace Go.Proofs.YtfmjehkohlbebaaGreatDoor.topFires
theorem r99 : run 99 101 = true := by kernel_rfl
theorem r102 : run 102 104 = true := by kernel_rfl
theorem r105 : run 105 107 = true := by kernel_rfl
theorem r108 : run 108 110 = true := by kernel_rfl
theorem r111 : run 111 113 = true := by kernel_rfl
theorem r114 : run 114 116 = true := by kernel_rfl
theorem r117 : run 117 119 = true := by kernel_rfl
theorem r120 : run 120 122 = true := by kernel_rfl
end Go.Proofs.YtfmjehkohlbebaaGreatDoor.topFires
