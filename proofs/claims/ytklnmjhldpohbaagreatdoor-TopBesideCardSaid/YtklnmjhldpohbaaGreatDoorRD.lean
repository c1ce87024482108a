/-
  TopBeside run by the interpreter. No conditions.
-/
import Derived.Test.YtklnmjhldpohbaaGreatDoorA2
namespace Go.Proofs.YtklnmjhldpohbaaGreatDoor.topBeside
open Den Ast
/-- .. at numbers of which Low makes x and y. -/
noncomputable def Bs (x y : Nat) : Bool := callF FT 60 s3 [.lc 13 x, .lc 13 y] .lf .z (fun v _ _ => v.onB fun b => b)
end Go.Proofs.YtklnmjhldpohbaaGreatDoor.topBeside
