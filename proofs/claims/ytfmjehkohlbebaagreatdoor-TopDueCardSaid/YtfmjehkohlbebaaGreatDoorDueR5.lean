/-
  Runs of TopDue, by the kernel. No conditions.
-/
import Derived.Test.YtfmjehkohlbebaaGreatDoorDueD
import Derived.KernelRfl
set_option maxRecDepth 1000000
namespace Go.Proofs.YtfmjehkohlbebaaGreatDoor.topDue
theorem r6_47 : run 6 47 = true := by kernel_rfl
theorem r6_48 : run 6 48 = true := by kernel_rfl
theorem r6_49 : run 6 49 = true := by kernel_rfl
theorem r6_50 : run 6 50 = true := by kernel_rfl
theorem r6_51 : run 6 51 = true := by kernel_rfl
theorem r6_52 : run 6 52 = true := by kernel_rfl
theorem r6_53 : run 6 53 = true := by kernel_rfl
theorem r6_54 : run 6 54 = true := by kernel_rfl
theorem r6_55 : run 6 55 = true := by kernel_rfl
theorem r6_56 : run 6 56 = true := by kernel_rfl
theorem r6_57 : run 6 57 = true := by kernel_rfl
theorem r6_58 : run 6 58 = true := by kernel_rfl
theorem r6_59 : run 6 59 = true := by kernel_rfl
theorem r6_60 : run 6 60 = true := by kernel_rfl
theorem r6_61 : run 6 61 = true := by kernel_rfl
theorem r6_62 : run 6 62 = true := by kernel_rfl
theorem r6_63 : run 6 63 = true := by kernel_rfl
theorem r6_64 : run 6 64 = true := by kernel_rfl
end Go.Proofs.YtfmjehkohlbebaaGreatDoor.topDue
