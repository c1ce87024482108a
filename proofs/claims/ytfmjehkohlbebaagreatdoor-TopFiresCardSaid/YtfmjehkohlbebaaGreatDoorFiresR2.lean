/-
  Runs of TopFires, by the kernel. No conditions.
-/
import Derived.Test.YtfmjehkohlbebaaGreatDoorFiresD
import Derived.KernelRfl
set_option maxRecDepth 1000000
namespace Go.Proofs.YtfmjehkohlbebaaGreatDoor.topFires
theorem r48 : run 48 50 = true := by kernel_rfl
theorem r51 : run 51 53 = true := by kernel_rfl
theorem r54 : run 54 56 = true := by kernel_rfl
theorem r57 : run 57 59 = true := by kernel_rfl
theorem r60 : run 60 62 = true := by kernel_rfl
theorem r63 : run 63 65 = true := by kernel_rfl
theorem r66 : run 66 68 = true := by kernel_rfl
theorem r69 : run 69 71 = true := by kernel_rfl
theorem r72 : run 72 74 = true := by kernel_rfl
end Go.Proofs.YtfmjehkohlbebaaGreatDoor.topFires
