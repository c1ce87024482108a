/-
  Runs of TopFires, by the kernel. No conditions.
-/
import Derived.Test.YtfmjehkohlbebaaGreatDoorFiresD
import Derived.KernelRfl
set_option maxRecDepth 1000000
namespace Go.Proofs.YtfmjehkohlbebaaGreatDoor.topFires
theorem r123 : run 123 125 = true := by kernel_rfl
theorem r126 : run 126 128 = true := by kernel_rfl
theorem r129 : run 129 131 = true := by kernel_rfl
theorem r132 : run 132 134 = true := by kernel_rfl
theorem r135 : run 135 137 = true := by kernel_rfl
theorem r138 : run 138 140 = true := by kernel_rfl
theorem r141 : run 141 143 = true := by kernel_rfl
theorem r144 : run 144 146 = true := by kernel_rfl
theorem r147 : run 147 149 = true := by kernel_rfl
end Go.Proofs.YtfmjehkohlbebaaGreatDoor.topFires
