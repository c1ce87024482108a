/-
  TopFires run by the interpreter, parted where what is not known is told. No conditions.
-/
import Derived.Test.YtfmjehkohlbebaaGreatDoorA2
import Derived.Test.YtfmjehkohlbebaaGreatDoorD5
namespace Go.Proofs.YtfmjehkohlbebaaGreatDoor.topFires
open Den Ast
noncomputable def roundT : Step := c_seq (c_seq (c_fn R3_8) (c_cond (.t q10) c_skip (c_exit 0))) (c_seq (c_blk 1 (c_fn R3_9)) (c_fn R3_10))
noncomputable def tailT : Step := c_seq (c_fn R3_11) (c_seq (c_seq (c_fn R3_12) (c_blk 2 (loopK (c_seq (c_seq (c_fn R3_13) (c_cond (.t q11) c_skip (c_exit 2))) (c_seq (c_blk 3 (c_fn R3_14)) (c_fn R3_15)))))) (c_seq (c_fn R3_16) c_ret))
/-- The law: jobs of a to b ticks (but two). -/
noncomputable def body (a b : Nat) : Step :=
  c_seq (c_fn R3_0) (c_seq (c_fn R3_1) (c_seq (c_fn (hookR s0 a b)) (c_seq (c_fn R3_2) (c_seq (c_fn R3_3) (c_seq (c_fn R3_4) (c_seq (c_seq (c_fn R3_5) (c_cond (.t q9) (c_seq (c_fn R3_6) c_ret) c_skip)) (c_seq (c_seq (c_fn R3_7) (c_blk 0 (loopK (c_seq (c_fn (hookN q4 q3 q5)) roundT)))) (c_seq (c_fn (hookW q2 q4 9)) (withC (callF FT1 60) tailT)))))))))
noncomputable def run (a b : Nat) : Bool := f_mk (body a b) [.t q12] [q0, q1] (callF FT 60) [.ls 199 s0, .ls 50 s1] .lf s2 (fun v _ _ => v.onB fun b => b)
end Go.Proofs.YtfmjehkohlbebaaGreatDoor.topFires
