/-
  Runs of TopForked, by the kernel. No conditions.
-/
import Derived.Test.YtoeffdbfemecjaaGreatDoorForkedD
import Derived.KernelRfl
set_option maxRecDepth 1000000
namespace Go.Proofs.YtoeffdbfemecjaaGreatDoor.topForked
theorem r4 : Bs 4 = true := by kernel_rfl
theorem r5 : Bs 5 = true := by kernel_rfl
theorem r6 : Bs 6 = true := by kernel_rfl
theorem r7 : Bs 7 = true := by kernel_rfl
end Go.Proofs.YtoeffdbfemecjaaGreatDoor.topForked
