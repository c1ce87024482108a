/-
  TopChained run by the interpreter. No conditions.
-/
import Derived.Test.YtoeffdbfemecjaaGreatDoorA2
namespace Go.Proofs.YtoeffdbfemecjaaGreatDoor.topChained
open Den Ast
/-- .. at numbers of which Low makes these. -/
noncomputable def Bs (x0 : Nat) : Bool := callF FT 60 s5 [.lc 4 x0, .ls 800 .z] .lf s1 (fun v _ _ => v.onB fun b => b)
end Go.Proofs.YtoeffdbfemecjaaGreatDoor.topChained
