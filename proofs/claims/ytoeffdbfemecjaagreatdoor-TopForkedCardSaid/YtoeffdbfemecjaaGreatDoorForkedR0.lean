/-
  Runs of TopForked, by the kernel. No conditions.
-/
import Derived.Test.YtoeffdbfemecjaaGreatDoorForkedD
import Derived.KernelRfl
set_option maxRecDepth 1000000
namespace Go.Proofs.YtoeffdbfemecjaaGreatDoor.topForked
theorem r0 : Bs 0 = true := by kernel_rfl
theorem r1 : Bs 1 = true := by kernel_rfl
theorem r2 : Bs 2 = true := by kernel_rfl
theorem r3 : Bs 3 = true := by kernel_rfl
end Go.Proofs.YtoeffdbfemecjaaGreatDoor.topForked
