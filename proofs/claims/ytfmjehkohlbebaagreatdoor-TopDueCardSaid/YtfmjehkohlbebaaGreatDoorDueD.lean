/-
  TopDue run by the interpreter, parted by how the deadlines are ordered. No conditions.
-/
import Derived.Test.YtfmjehkohlbebaaGreatDoorA2
import Derived.Test.YtfmjehkohlbebaaGreatDoorO
namespace Go.Proofs.YtfmjehkohlbebaaGreatDoor.topDue
open Den Ast
/-- All ways to lay a number into a row; all rows of the first n numbers. -/
def ins1 (x : Nat) : List Nat → List (List Nat)
  | [] => [[x]]
  | y :: r => (x :: y :: r) :: (ins1 x r).map fun m => y :: m
def perms : Nat → List (List Nat)
  | 0 => [[]]
  | n + 1 => (perms n).flatMap (ins1 n)
/-- What stands for task i's deadline. -/
def qs : Nat → P
  | 0 => s0 | 1 => s1 | 2 => s2 | 3 => s3 | 4 => s4 | _ => s5
def ord (l : List Nat) : List (P × Nat) := l.map fun i => (qs i, i)
def seg (n k : Nat) : List (List (P × Nat)) := (((perms n).drop (3 * k)).take 3).map ord
def lsN (n : Nat) : List VV := (List.range n).map fun i => .ls 40 (qs i)
noncomputable def m0 (n : Nat) : Mem := Tr.set .dead .lf s7 (.bs 3 (lsN n) [])
def arg (n : Nat) : VV := .bsl s7 s6 n (bif Nat.beq n 6 then 9223372036854775807 else n)
abbrev Fss := List (List (P × Nat))
/-- Play, its fourth round told apart. -/
noncomputable def playB (Fs : Fss) : Step :=
  c_seq (c_fn R77_0) (c_seq (c_seq (c_fn R77_1) (c_cond (.t q5) (c_seq (c_fn R77_10) c_ret) c_skip)) (c_seq (c_fn R77_2) (c_seq (c_seq (c_fn R77_5) (c_blk 0 (loopK (c_seq (c_fn (hookO q4 3 s7 Fs)) (c_seq (c_seq (c_fn R77_6) (c_cond (.t q7) c_skip (c_exit 0))) (c_seq (c_blk 1 (c_seq (c_fn R77_7) (c_fn R77_8))) (c_fn R77_9))))))) (c_seq (c_fn R77_3) (c_seq (c_fn R77_4) c_ret)))))
noncomputable def cP (Fs : Fss) : Den.Call := aheadC s77 (f_mk (playB Fs) [.t q9] [q0, q1, q2] (callF FT 60)) (callF FT 60)
noncomputable def runB (Fs : Fss) : Step :=
  c_seq (c_fn R33_0) (c_seq (c_fn R33_1) (c_seq (c_seq (c_fn R33_2) (c_cond (.t q6) (c_seq (c_fn R33_5) c_ret) c_skip)) (c_seq (withC (cP Fs) (c_fn R33_3)) (c_seq (c_fn R33_4) c_ret))))
noncomputable def cR (Fs : Fss) : Den.Call := aheadC s33 (f_mk (runB Fs) [.t q7, .t q8, .t q9, .t q10] [q0, q1, q2] (callF FT 60)) (cP Fs)
noncomputable def showB (Fs : Fss) : Step := c_seq (c_fn R17_0) (c_seq (withC (cR Fs) (c_fn R17_1)) (c_seq (c_fn R17_2) c_ret))
noncomputable def cS (Fs : Fss) : Den.Call := aheadC s17 (f_mk (showB Fs) [.c q3 4 true] [q0, q1, q2] (callF FT 60)) (cR Fs)
/-- The law. -/
noncomputable def body (Fs : Fss) : Step :=
  c_seq (c_fn R5_0) (c_seq (c_fn R5_1) (c_seq (c_fn R5_2) (c_seq (c_fn R5_3) (c_seq (c_seq (c_fn R5_13) (c_blk 0 (loopK (c_seq (c_seq (c_fn R5_14) (c_cond (.t q7) c_skip (c_exit 0))) (c_seq (c_blk 1 (c_seq (c_fn R5_15) (c_fn R5_16))) (c_fn R5_17)))))) (c_seq (withC (cS Fs) (c_fn R5_4)) (c_seq (c_seq (c_fn R5_5) (c_cond (.t q8) (c_seq (c_fn R5_12) c_ret) c_skip)) (c_seq (c_seq (c_fn R5_7) (c_blk 2 (loopK (c_seq (c_fn (hookT q6 q3 1 s7)) (c_seq (c_seq (c_fn R5_8) (c_cond (.t q9) c_skip (c_exit 2))) (c_seq (c_blk 3 (c_seq (c_fn R5_9) (c_cond (.t q10) (c_seq (c_fn R5_11) c_ret) c_skip))) (c_fn R5_10))))))) (c_seq (c_fn R5_6) c_ret))))))))
noncomputable def fin : Kv := fun v _ _ => v.onB fun b => b
noncomputable def run (n k : Nat) : Bool := f_mk (body (seg n k)) [.t q11] [q0] (callF FT 60) [arg n] (m0 n) s8 fin
noncomputable def runZ (v : VV) : Bool := f_mk (body [[]]) [.t q11] [q0] (callF FT 60) [v] .lf s8 fin
end Go.Proofs.YtfmjehkohlbebaaGreatDoor.topDue
