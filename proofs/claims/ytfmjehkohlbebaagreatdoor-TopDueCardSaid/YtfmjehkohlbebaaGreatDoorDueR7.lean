/-
  Runs of TopDue, by the kernel. No conditions.
-/
import Derived.Test.YtfmjehkohlbebaaGreatDoorDueD
import Derived.KernelRfl
set_option maxRecDepth 1000000
namespace Go.Proofs.YtfmjehkohlbebaaGreatDoor.topDue
theorem r6_82 : run 6 82 = true := by kernel_rfl
theorem r6_83 : run 6 83 = true := by kernel_rfl
theorem r6_84 : run 6 84 = true := by kernel_rfl
theorem r6_85 : run 6 85 = true := by kernel_rfl
theorem r6_86 : run 6 86 = true := by kernel_rfl
theorem r6_87 : run 6 87 = true := by kernel_rfl
theorem r6_88 : run 6 88 = true := by kernel_rfl
theorem r6_89 : run 6 89 = true := by kernel_rfl
theorem r6_90 : run 6 90 = true := by kernel_rfl
theorem r6_91 : run 6 91 = true := by kernel_rfl
theorem r6_92 : run 6 92 = true := by kernel_rfl
theorem r6_93 : run 6 93 = true := by kernel_rfl
theorem r6_94 : run 6 94 = true := by kernel_rfl
theorem r6_95 : run 6 95 = true := by kernel_rfl
theorem r6_96 : run 6 96 = true := by kernel_rfl
theorem r6_97 : run 6 97 = true := by kernel_rfl
theorem r6_98 : run 6 98 = true := by kernel_rfl
theorem r6_99 : run 6 99 = true := by kernel_rfl
end Go.Proofs.YtfmjehkohlbebaaGreatDoor.topDue
