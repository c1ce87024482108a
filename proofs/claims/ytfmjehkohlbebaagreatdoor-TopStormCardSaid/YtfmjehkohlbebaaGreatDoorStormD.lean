/-
  TopStorm run by the interpreter, parted where what is not known is told. No conditions.
-/
import Derived.Test.YtfmjehkohlbebaaGreatDoorA2
import Derived.Test.YtfmjehkohlbebaaGreatDoorO
namespace Go.Proofs.YtfmjehkohlbebaaGreatDoor.topStorm
open Den Ast
/-- Play, its rounds told apart. -/
noncomputable def playB : Step :=
  c_seq (c_fn R77_0) (c_seq (c_seq (c_fn R77_1) (c_cond (.t q5) (c_seq (c_fn R77_10) c_ret) c_skip)) (c_seq (c_fn R77_2) (c_seq (c_seq (c_fn R77_5) (c_blk 0 (loopK (c_seq (c_fn (hookP q1 q6 q4)) (c_seq (c_seq (c_fn R77_6) (c_cond (.t q7) c_skip (c_exit 0))) (c_seq (c_blk 1 (c_seq (c_fn R77_7) (c_fn R77_8))) (c_fn R77_9))))))) (c_seq (c_fn R77_3) (c_seq (c_fn R77_4) c_ret)))))
noncomputable def cP : Den.Call := aheadC s77 (f_mk playB [.t q9] [q0, q1, q2] (callF FT 60)) (callF FT 60)
noncomputable def runB : Step :=
  c_seq (c_fn R33_0) (c_seq (c_fn R33_1) (c_seq (c_seq (c_fn R33_2) (c_cond (.t q6) (c_seq (c_fn R33_5) c_ret) c_skip)) (c_seq (withC cP (c_fn R33_3)) (c_seq (c_fn R33_4) c_ret))))
noncomputable def cR : Den.Call := aheadC s33 (f_mk runB [.t q7, .t q8, .t q9, .t q10] [q0, q1, q2] (callF FT 60)) cP
noncomputable def showB : Step := c_seq (c_fn R17_0) (c_seq (withC cR (c_fn R17_1)) (c_seq (c_fn R17_2) c_ret))
noncomputable def cS : Den.Call := aheadC s17 (f_mk showB [.c q3 4 true] [q0, q1, q2] (callF FT 60)) cR
noncomputable def esL : Step := c_blk 0 (loopK (c_seq (c_seq (c_fn R4_20) (c_cond (.t q11) c_skip (c_exit 0))) (c_seq (c_blk 1 (c_fn R4_21)) (c_fn R4_22))))
noncomputable def restL : Step := c_seq (c_seq (c_fn R4_6) (c_cond (.t q12) (c_seq (c_fn R4_18) c_ret) c_skip)) (c_seq (c_seq (c_fn R4_13) (c_blk 2 (loopK (c_seq (c_seq (c_fn R4_14) (c_cond (.t q13) c_skip (c_exit 2))) (c_seq (c_blk 3 (c_seq (c_fn R4_15) (c_cond (.t q14) (c_seq (c_fn R4_17) c_ret) c_skip))) (c_fn R4_16)))))) (c_seq (c_fn R4_7) (c_seq (c_seq (c_fn R4_9) (c_blk 4 (loopK (c_seq (c_seq (c_fn R4_10) (c_cond (.t q15) c_skip (c_exit 4))) (c_seq (c_blk 5 (c_fn R4_11)) (c_fn R4_12)))))) (c_seq (c_fn R4_8) c_ret))))
/-- The law: lengths from a to b. -/
noncomputable def body (a b : Nat) : Step :=
  c_seq (c_fn R4_0) (c_seq (c_fn R4_1) (c_seq (c_fn (hookR s0 a b)) (c_seq (c_fn (hookZ q5)) (c_seq (c_fn R4_2) (c_seq (c_fn R4_3) (c_seq (c_fn R4_4) (c_seq (c_seq (c_fn R4_19) (Den.esK 41 q2 q5 q7 q8 q4 esL)) (c_seq (withC cS (c_fn R4_5)) (c_seq (c_fn (hookL q8)) restL)))))))))
noncomputable def run (g : Nat) (a b : Nat) : Bool := f_mk (body a b) [.t q16] [q0, q1] (callF FT 60) [.lc 30 g, .ls 200 s0] .lf s1 (fun v _ _ => v.onB fun b => b)
end Go.Proofs.YtfmjehkohlbebaaGreatDoor.topStorm
