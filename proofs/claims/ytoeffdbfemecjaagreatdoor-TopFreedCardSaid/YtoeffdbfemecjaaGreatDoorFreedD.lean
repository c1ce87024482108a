/-
  TopFreed run by the interpreter. No conditions.
-/
import Derived.Test.YtoeffdbfemecjaaGreatDoorA2
namespace Go.Proofs.YtoeffdbfemecjaaGreatDoor.topFreed
open Den Ast
/-- .. at numbers of which Low makes these. -/
noncomputable def Bs (x0 x1 : Nat) : Bool := callF FT 60 s3 [.lc 20 x0, .lc 10 x1] .lf s1 (fun v _ _ => v.onB fun b => b)
end Go.Proofs.YtoeffdbfemecjaaGreatDoor.topFreed
