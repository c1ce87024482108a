/-
  TopChunks run by the interpreter. No conditions.
-/
import Derived.Test.YtoeffdbfemecjaaGreatDoorA2
namespace Go.Proofs.YtoeffdbfemecjaaGreatDoor.topChunks
open Den Ast
/-- .. at numbers of which Low makes these. -/
noncomputable def Bs (x0 : Nat) : Bool := callF FT 60 s4 [.lc 46 x0] .lf s1 (fun v _ _ => v.onB fun b => b)
end Go.Proofs.YtoeffdbfemecjaaGreatDoor.topChunks
