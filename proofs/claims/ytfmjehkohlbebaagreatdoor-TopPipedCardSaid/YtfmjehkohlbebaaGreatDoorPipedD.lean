/-
  TopPiped run by the interpreter: its runs come together behind each text; the time is not known. No conditions.
-/
import Derived.Test.YtfmjehkohlbebaaGreatDoorA2
import Derived.Test.YtfmjehkohlbebaaGreatDoorO
import Derived.Test.YtfmjehkohlbebaaGreatDoorU
namespace Go.Proofs.YtfmjehkohlbebaaGreatDoor.topPiped
open Go Eng Den Ast
/-- What stands for text i, and for its length. -/
def qt : Nat → Den.P
  | 0 => s0 | 1 => s1 | 2 => s2 | 3 => s3 | _ => s4
def ql : Nat → Den.P
  | 0 => s5 | 1 => s6 | 2 => s7 | 3 => s8 | _ => s9
def txs (n : Nat) : List VV := (List.range n).map fun i => .txr (qt i) (ql i)
noncomputable def m0 (n : Nat) : Mem := Tr.set .dead .lf s11 (.bs 9 (txs n) [])
def arg (n : Nat) : VV := .bsl s11 s10 n (bif Nat.beq n 6 then 9223372036854775807 else n)
def cnt (n : Nat) : Nat := bif Nat.beq n 6 then 5 else n
noncomputable def rndS : Step := c_seq (c_seq (c_fn R77_6) (c_cond (.t q7) c_skip (c_exit 0))) (c_seq (c_blk 1 (c_seq (c_fn R77_7) (c_fn R77_8))) (c_fn R77_9))
def keep : List I := [q0, q1, q3, q4, q6]
noncomputable def cls (call : Den.Call) (i c : Nat) : Br := fun k => narB (qt i) (ql i) (16 * c - 15) (16 * c) (rndB rndS call (2 + c) k)
noncomputable def stage (rt : Den.P) (call : Den.Call) (ts : Den.P) (i : Nat) : Br := mrgB q4 ts rt ts keep (50 * i + 50) (fun k => narB (qt i) (ql i) 1 64 (mrgB q4 ts rt ts keep (50 * i + 30) (cls call i 1) [cls call i 2, cls call i 3, cls call i 4] (rndB rndS call 13 k))) [fun k => narB (qt i) (ql i) 0 0 (rndB rndS call 8 k)]
noncomputable def stages (rt : Den.P) (call : Den.Call) (ts : Den.P) (n : Nat) : Nat → Br := fun j => Nat.rec (motive := fun _ => Br) (fun k => k) (fun m ih k => stage rt call ts (n - 1 - m) (ih k)) j
noncomputable def pre (call : Den.Call) (ts : Den.P) : Br := fun k => symB q4 q0 (rndB rndS call 14 (rowE1 q4 q3 ts 400 (rowN1 q4 q0 ts 400 k)))
noncomputable def loopM (rt : Den.P) (n : Nat) : Step := fun call e M nx k => pre call nx (stages rt call nx (cnt n) (cnt n) (rndB rndS call 9 (Den.endK rndS call k q4 nx rt nx keep 400 6))) e M nx
noncomputable def playB (rt : Den.P) (n : Nat) : Step :=
  c_seq (c_fn R77_0) (c_seq (c_seq (c_fn R77_1) (c_cond (.t q5) (c_seq (c_fn R77_10) c_ret) c_skip)) (c_seq (c_fn R77_2) (c_seq (c_seq (c_fn R77_5) (c_blk 0 (loopM rt n))) (c_seq (c_fn R77_3) (c_seq (c_fn R77_4) c_ret)))))
noncomputable def cP (rt : Den.P) (n : Nat) : Den.Call := aheadC s77 (f_mk (playB rt n) [.t q9] [q0, q1, q2] (callF FT 60)) (callF FT 60)
noncomputable def runB (rt : Den.P) (n : Nat) : Step :=
  c_seq (c_fn R33_0) (c_seq (c_fn R33_1) (c_seq (c_seq (c_fn R33_2) (c_cond (.t q6) (c_seq (c_fn R33_5) c_ret) c_skip)) (c_seq (withC (cP rt n) (c_fn R33_3)) (c_seq (c_fn R33_4) c_ret))))
noncomputable def cR (rt : Den.P) (n : Nat) : Den.Call := aheadC s33 (f_mk (runB rt n) [.t q7, .t q8, .t q9, .t q10] [q0, q1, q2] (callF FT 60)) (cP rt n)
/-- The block of the caller's results is kept, too. -/
noncomputable def withR (i : I) (C : Den.P → Den.Call) (s : Step) : Step := fun _ e M nx k => e.getK i fun v => v.onP fun b _ => s (C b) e M nx k
noncomputable def showB (n : Nat) : Step := c_seq (c_fn R17_0) (c_seq (withR q3 (fun b => cR b n) (c_fn R17_1)) (c_seq (c_fn R17_2) c_ret))
noncomputable def cS (n : Nat) : Den.Call := aheadC s17 (f_mk (showB n) [.c q3 4 true] [q0, q1, q2] (callF FT 60)) (callF FT 60)
noncomputable def body (n : Nat) : Step :=
  c_seq (c_fn R6_0) (c_seq (c_fn R6_1) (c_seq (c_fn R6_2) (c_seq (c_seq (c_fn R6_15) (c_blk 0 (loopK (c_seq (c_seq (c_fn R6_16) (c_cond (.t q10) c_skip (c_exit 0))) (c_seq (c_blk 1 (c_seq (c_fn R6_17) (c_seq (cutS q2 q11) (c_seq (c_fn R6_18) (c_fn R6_19))))) (c_fn R6_20))))))
   (c_seq (c_fn R6_3) (c_seq (withC (cS n) (c_fn R6_4)) (c_seq (c_fn R6_5) (c_seq (gotS q5 q7 q9) (c_seq (c_fn R6_6) c_ret))))))))
noncomputable def fin : Kv := fun v _ _ => v.onB fun b => b
noncomputable def run (n lev : Nat) : Bool := f_mk (body n) [.t q16] [q0, q1] (callF FT 60) [arg n, .lc 16 lev] (m0 (cnt n)) s12 fin
noncomputable def runZ (v : VV) (lev : Nat) : Bool := f_mk (body 0) [.t q16] [q0, q1] (callF FT 60) [v, .lc 16 lev] .lf s12 fin
end Go.Proofs.YtfmjehkohlbebaaGreatDoor.topPiped
