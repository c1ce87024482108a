/-
  TopForked run by the interpreter. No conditions.
-/
import Derived.Test.YtoeffdbfemecjaaGreatDoorA2
namespace Go.Proofs.YtoeffdbfemecjaaGreatDoor.topForked
open Den Ast
/-- .. at numbers of which Low makes these. -/
noncomputable def Bs (x0 : Nat) : Bool := callF FT 60 s6 [.lc 8 x0, .ls 256 .z] .lf s1 (fun v _ _ => v.onB fun b => b)
end Go.Proofs.YtoeffdbfemecjaaGreatDoor.topForked
