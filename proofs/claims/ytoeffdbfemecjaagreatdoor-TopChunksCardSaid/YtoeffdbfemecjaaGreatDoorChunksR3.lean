/-
  Runs of TopChunks, by the kernel. No conditions.
-/
import Derived.Test.YtoeffdbfemecjaaGreatDoorChunksD
import Derived.KernelRfl
set_option maxRecDepth 1000000
namespace Go.Proofs.YtoeffdbfemecjaaGreatDoor.topChunks
theorem r34 : Bs 34 = true := by kernel_rfl
theorem r35 : Bs 35 = true := by kernel_rfl
theorem r36 : Bs 36 = true := by kernel_rfl
theorem r37 : Bs 37 = true := by kernel_rfl
theorem r38 : Bs 38 = true := by kernel_rfl
theorem r39 : Bs 39 = true := by kernel_rfl
theorem r40 : Bs 40 = true := by kernel_rfl
theorem r41 : Bs 41 = true := by kernel_rfl
theorem r42 : Bs 42 = true := by kernel_rfl
theorem r43 : Bs 43 = true := by kernel_rfl
theorem r44 : Bs 44 = true := by kernel_rfl
theorem r45 : Bs 45 = true := by kernel_rfl
end Go.Proofs.YtoeffdbfemecjaaGreatDoor.topChunks
