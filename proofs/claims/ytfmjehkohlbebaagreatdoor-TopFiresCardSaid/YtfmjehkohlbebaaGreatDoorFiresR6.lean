/-
  Runs of TopFires, by the kernel. No conditions.
-/
import Derived.Test.YtfmjehkohlbebaaGreatDoorFiresD
import Derived.KernelRfl
set_option maxRecDepth 1000000
namespace Go.Proofs.YtfmjehkohlbebaaGreatDoor.topFires
theorem r150 : run 150 152 = true := by kernel_rfl
theorem r153 : run 153 155 = true := by kernel_rfl
theorem r156 : run 156 158 = true := by kernel_rfl
theorem r159 : run 159 161 = true := by kernel_rfl
theorem r162 : run 162 164 = true := by kernel_rfl
theorem r165 : run 165 167 = true := by kernel_rfl
theorem r168 : run 168 170 = true := by kernel_rfl
theorem r171 : run 171 173 = true := by kernel_rfl
end Go.Proofs.YtfmjehkohlbebaaGreatDoor.topFires
