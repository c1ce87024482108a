/-
  No cell of these rows narrows 'for every input' (looked for: loops, veiled, ifaces, maps, wideKeys, modest, calm, conditions, laid).
  DERIVED. THE GIVEN ROWS OF THIS SEAT. 5 by the template 'for every input the law returns true; each argument reads behind the call as it read before'; 0 by the template 'total and deterministic' (their statements: YtfodmphekdaobaaTotals.lean).
  GIVEN WITH THE SEED: the statements are not yours to turn. If you find one false, say at which input.
  Laid BY PROGRAM, IN A SANDBOX (cutbox-rows.mjs): the forced cells as the released guide's own fill.sh prints them over the translation c59bc1b460984a43… (all of the seat's roots in one cut). By AI agents, Wed Nov 11 2026. No macro, syntax, notation, axiom, sorry.
-/
import Derived.Test.YtfodmphekdaobaaChecked
import GoSem.Claim
import GoSem.ClaimJoined
import GoSem.ClaimMapViews
import Derived.JoinedTies
import Derived.KernelRfl
namespace Go.Proofs.Ytfodmphekdaobaa
/- THE CELL 'sum', in the pinned program and in every row, IS THE sha256 OF THE DUMP (.gsa) THAT YtfodmphekdaobaaProg.lean LOADS. Nothing in Lean hashes anything: it is a label: what it is worth is what the hold of that sum in a sandbox is worth. -/
noncomputable def Try.pinned : Pinned := { name := "ytfodmphekdaobaa", sum := "c59bc1b460984a435aa8fa58c07e17b55c2f7b630081187d86c19e68b7154709", checked := Try.checked }
namespace Rows
def none {H : Type} : Left H := { results := [], args := [] }

/-- 'coxswainlaw4.FramesLast': WHATEVER THE INPUT: true; the input reads as it did. -/
def framesLastSpec : ChangeSpec := { name := "framesLast", fn := fun _ => fun
  | [d1, d2] => { results := [.lit (.bool true)], args := [d1, d2] }
  | _ => none }
def framesLastRow : OpenClaim := { program := "ytfodmphekdaobaa", sum := "c59bc1b460984a435aa8fa58c07e17b55c2f7b630081187d86c19e68b7154709", func := "coxswain/coxswainlaw4.FramesLast", spec := "framesLast", apart := false }
def FramesLastSaid : Prop := framesLastRow.holds Try.pinned (OpenSpec.ofChange framesLastSpec)

/-- ITS FALSE NEIGHBOUR: 'it returns false'. Refute it at one input. -/
def framesLastWrong : ChangeSpec := { name := "framesLast", fn := fun _ => fun
  | [d1, d2] => { results := [.lit (.bool false)], args := [d1, d2] }
  | _ => none }
def FramesLastWrongFalsely : Prop := framesLastRow.holds Try.pinned (OpenSpec.ofChange framesLastWrong)

/-- 'coxswainlaw4.FramesOnce': WHATEVER THE INPUT: true; the input reads as it did. -/
def framesOnceSpec : ChangeSpec := { name := "framesOnce", fn := fun _ => fun
  | [d] => { results := [.lit (.bool true)], args := [d] }
  | _ => none }
def framesOnceRow : OpenClaim := { program := "ytfodmphekdaobaa", sum := "c59bc1b460984a435aa8fa58c07e17b55c2f7b630081187d86c19e68b7154709", func := "coxswain/coxswainlaw4.FramesOnce", spec := "framesOnce", apart := false }
def FramesOnceSaid : Prop := framesOnceRow.holds Try.pinned (OpenSpec.ofChange framesOnceSpec)

/-- ITS FALSE NEIGHBOUR: 'it returns false'. Refute it at one input. -/
def framesOnceWrong : ChangeSpec := { name := "framesOnce", fn := fun _ => fun
  | [d] => { results := [.lit (.bool false)], args := [d] }
  | _ => none }
def FramesOnceWrongFalsely : Prop := framesOnceRow.holds Try.pinned (OpenSpec.ofChange framesOnceWrong)

/-- 'coxswainlaw4.FramesKeep': WHATEVER THE INPUT: true; the input reads as it did. -/
def framesKeepSpec : ChangeSpec := { name := "framesKeep", fn := fun _ => fun
  | [d1, d2, d3, d4] => { results := [.lit (.bool true)], args := [d1, d2, d3, d4] }
  | _ => none }
def framesKeepRow : OpenClaim := { program := "ytfodmphekdaobaa", sum := "c59bc1b460984a435aa8fa58c07e17b55c2f7b630081187d86c19e68b7154709", func := "coxswain/coxswainlaw4.FramesKeep", spec := "framesKeep", apart := false }
def FramesKeepSaid : Prop := framesKeepRow.holds Try.pinned (OpenSpec.ofChange framesKeepSpec)

/-- ITS FALSE NEIGHBOUR: 'it returns false'. Refute it at one input. -/
def framesKeepWrong : ChangeSpec := { name := "framesKeep", fn := fun _ => fun
  | [d1, d2, d3, d4] => { results := [.lit (.bool false)], args := [d1, d2, d3, d4] }
  | _ => none }
def FramesKeepWrongFalsely : Prop := framesKeepRow.holds Try.pinned (OpenSpec.ofChange framesKeepWrong)

/-- 'coxswainlaw4.FramesScript': WHATEVER THE INPUT: true; the input reads as it did. -/
def framesScriptSpec : ChangeSpec := { name := "framesScript", fn := fun _ => fun
  | [d1, d2] => { results := [.lit (.bool true)], args := [d1, d2] }
  | _ => none }
def framesScriptRow : OpenClaim := { program := "ytfodmphekdaobaa", sum := "c59bc1b460984a435aa8fa58c07e17b55c2f7b630081187d86c19e68b7154709", func := "coxswain/coxswainlaw4.FramesScript", spec := "framesScript", apart := false }
def FramesScriptSaid : Prop := framesScriptRow.holds Try.pinned (OpenSpec.ofChange framesScriptSpec)

/-- ITS FALSE NEIGHBOUR: 'it returns false'. Refute it at one input. -/
def framesScriptWrong : ChangeSpec := { name := "framesScript", fn := fun _ => fun
  | [d1, d2] => { results := [.lit (.bool false)], args := [d1, d2] }
  | _ => none }
def FramesScriptWrongFalsely : Prop := framesScriptRow.holds Try.pinned (OpenSpec.ofChange framesScriptWrong)

/-- 'coxswainlaw4.FramesNone': WHATEVER THE INPUT: true; the input reads as it did. -/
def framesNoneSpec : ChangeSpec := { name := "framesNone", fn := fun _ => fun
  | [d1, d2, d3] => { results := [.lit (.bool true)], args := [d1, d2, d3] }
  | _ => none }
def framesNoneRow : OpenClaim := { program := "ytfodmphekdaobaa", sum := "c59bc1b460984a435aa8fa58c07e17b55c2f7b630081187d86c19e68b7154709", func := "coxswain/coxswainlaw4.FramesNone", spec := "framesNone", apart := false }
def FramesNoneSaid : Prop := framesNoneRow.holds Try.pinned (OpenSpec.ofChange framesNoneSpec)

/-- ITS FALSE NEIGHBOUR: 'it returns false'. Refute it at one input. -/
def framesNoneWrong : ChangeSpec := { name := "framesNone", fn := fun _ => fun
  | [d1, d2, d3] => { results := [.lit (.bool false)], args := [d1, d2, d3] }
  | _ => none }
def FramesNoneWrongFalsely : Prop := framesNoneRow.holds Try.pinned (OpenSpec.ofChange framesNoneWrong)

/- THE SECOND FORM. 'bulk': how many values and letters a reading holds, each counted each time it is reached (what is shared counts as often as it is met; a slice's spare places count too). A statement '..UptoSaid' is the law's where the arguments, and the package variables that the reading takes, are together of bulk at most 1048576: NARROWER than '..Said'. Prove '..Said' where nothing that the law and all that it calls make is longer than what came in: it says more and counts as full. Else prove '..UptoSaid'. A law counts once. -/
mutual
def uptoBulk {H : Type} : DataW H → Nat
  | .lit (.string bytes) => bytes.length + 1
  | .lit _ => 1
  | .nil => 1
  | .ptr d => uptoBulk d + 1
  | .slice elems spare => uptoBulkAll elems + uptoBulkAll spare + 1
  | .agg parts => uptoBulkAll parts + 1
  | .iface _ d => uptoBulk d + 1
  | .map entries => uptoBulkEntries entries + 1
  | .held _ => 1
def uptoBulkAll {H : Type} : List (DataW H) → Nat
  | [] => 0
  | d :: r => uptoBulk d + uptoBulkAll r
def uptoBulkEntries {H : Type} : List (Lit × DataW H) → Nat
  | [] => 0
  | x :: r => uptoBulkEntry x + uptoBulkEntries r
def uptoBulkEntry {H : Type} : Lit × DataW H → Nat
  | (.string bytes, d) => bytes.length + uptoBulk d + 1
  | (_, d) => uptoBulk d + 1
 end
def uptoSmall : (H : Type) → List (DataW H) → Bool := fun _ ds => decide (uptoBulkAll ds ≤ 1048576)
def OpenSpec.upto (s : _root_.Go.ChangeSpec) : _root_.Go.OpenSpec := { _root_.Go.OpenSpec.ofChange s with cond := some uptoSmall }

/-- 'coxswainlaw4.FramesLast', WHERE WHAT IT READS IS OF BULK AT MOST 1048576: true; the input reads as it did. -/
def framesLastUptoRow : OpenClaim := { program := "ytfodmphekdaobaa", sum := "c59bc1b460984a435aa8fa58c07e17b55c2f7b630081187d86c19e68b7154709", func := "coxswain/coxswainlaw4.FramesLast", spec := "framesLast", apart := false, narrowed := true }
def FramesLastUptoSaid : Prop := framesLastUptoRow.holds Try.pinned (OpenSpec.upto framesLastSpec)

/-- 'coxswainlaw4.FramesOnce', WHERE WHAT IT READS IS OF BULK AT MOST 1048576: true; the input reads as it did. -/
def framesOnceUptoRow : OpenClaim := { program := "ytfodmphekdaobaa", sum := "c59bc1b460984a435aa8fa58c07e17b55c2f7b630081187d86c19e68b7154709", func := "coxswain/coxswainlaw4.FramesOnce", spec := "framesOnce", apart := false, narrowed := true }
def FramesOnceUptoSaid : Prop := framesOnceUptoRow.holds Try.pinned (OpenSpec.upto framesOnceSpec)

/-- 'coxswainlaw4.FramesKeep', WHERE WHAT IT READS IS OF BULK AT MOST 1048576: true; the input reads as it did. -/
def framesKeepUptoRow : OpenClaim := { program := "ytfodmphekdaobaa", sum := "c59bc1b460984a435aa8fa58c07e17b55c2f7b630081187d86c19e68b7154709", func := "coxswain/coxswainlaw4.FramesKeep", spec := "framesKeep", apart := false, narrowed := true }
def FramesKeepUptoSaid : Prop := framesKeepUptoRow.holds Try.pinned (OpenSpec.upto framesKeepSpec)

/-- 'coxswainlaw4.FramesScript', WHERE WHAT IT READS IS OF BULK AT MOST 1048576: true; the input reads as it did. -/
def framesScriptUptoRow : OpenClaim := { program := "ytfodmphekdaobaa", sum := "c59bc1b460984a435aa8fa58c07e17b55c2f7b630081187d86c19e68b7154709", func := "coxswain/coxswainlaw4.FramesScript", spec := "framesScript", apart := false, narrowed := true }
def FramesScriptUptoSaid : Prop := framesScriptUptoRow.holds Try.pinned (OpenSpec.upto framesScriptSpec)

/-- 'coxswainlaw4.FramesNone', WHERE WHAT IT READS IS OF BULK AT MOST 1048576: true; the input reads as it did. -/
def framesNoneUptoRow : OpenClaim := { program := "ytfodmphekdaobaa", sum := "c59bc1b460984a435aa8fa58c07e17b55c2f7b630081187d86c19e68b7154709", func := "coxswain/coxswainlaw4.FramesNone", spec := "framesNone", apart := false, narrowed := true }
def FramesNoneUptoSaid : Prop := framesNoneUptoRow.holds Try.pinned (OpenSpec.upto framesNoneSpec)

end Rows
end Go.Proofs.Ytfodmphekdaobaa
