/-
  Runs of TopFires, by the kernel. No conditions.
-/
import Derived.Test.YtfmjehkohlbebaaGreatDoorFiresD
import Derived.KernelRfl
set_option maxRecDepth 1000000
namespace Go.Proofs.YtfmjehkohlbebaaGreatDoor.topFires
theorem r24 : run 24 26 = true := by kernel_rfl
theorem r27 : run 27 29 = true := by kernel_rfl
theorem r30 : run 30 32 = true := by kernel_rfl
theorem r33 : run 33 35 = true := by kernel_rfl
theorem r36 : run 36 38 = true := by kernel_rfl
theorem r39 : run 39 41 = true := by kernel_rfl
theorem r42 : run 42 44 = true := by kernel_rfl
theorem r45 : run 45 47 = true := by kernel_rfl
end Go.Proofs.YtfmjehkohlbebaaGreatDoor.topFires
