/-
  No cell of these rows narrows 'for every input' (looked for: loops, veiled, ifaces, maps, wideKeys, modest, calm, conditions, laid).
  DERIVED. THE GIVEN ROWS OF THIS SEAT. 5 by the template 'for every input the law returns true; each argument reads behind the call as it read before'; 0 by the template 'total and deterministic' (their statements: YtkaonbolpaedmaaTotals.lean).
  GIVEN WITH THE SEED: the statements are not yours to turn. If you find one false, say at which input.
  Laid BY PROGRAM, IN A SANDBOX (cutbox-rows.mjs): the forced cells as the released guide's own fill.sh prints them over the translation ec77b01d1593873e… (all of the seat's roots in one cut). By AI agents, Wed Nov 11 2026. No macro, syntax, notation, axiom, sorry.
-/
import Derived.Test.YtkaonbolpaedmaaChecked
import GoSem.Claim
import GoSem.ClaimJoined
import GoSem.ClaimMapViews
import Derived.JoinedTies
import Derived.KernelRfl
namespace Go.Proofs.Ytkaonbolpaedmaa
/- THE CELL 'sum', in the pinned program and in every row, IS THE sha256 OF THE DUMP (.gsa) THAT YtkaonbolpaedmaaProg.lean LOADS. Nothing in Lean hashes anything: it is a label: what it is worth is what the hold of that sum in a sandbox is worth. -/
noncomputable def Try.pinned : Pinned := { name := "ytkaonbolpaedmaa", sum := "ec77b01d1593873e86b9498456468523f467fb1356fe0218ce6c5edc1890eccb", checked := Try.checked }
namespace Rows
def none {H : Type} : Left H := { results := [], args := [] }

/-- 'coxswainlaw14.LineScript': WHATEVER THE INPUT: true; the input reads as it did. -/
def lineScriptSpec : ChangeSpec := { name := "lineScript", fn := fun _ => fun
  | [d1, d2] => { results := [.lit (.bool true)], args := [d1, d2] }
  | _ => none }
def lineScriptRow : OpenClaim := { program := "ytkaonbolpaedmaa", sum := "ec77b01d1593873e86b9498456468523f467fb1356fe0218ce6c5edc1890eccb", func := "coxswain/coxswainlaw14.LineScript", spec := "lineScript", unfollowed := true, recurses := true, apart := false }
def LineScriptSaid : Prop := lineScriptRow.holds Try.pinned (OpenSpec.ofChange lineScriptSpec)

/-- ITS FALSE NEIGHBOUR: 'it returns false'. Refute it at one input. -/
def lineScriptWrong : ChangeSpec := { name := "lineScript", fn := fun _ => fun
  | [d1, d2] => { results := [.lit (.bool false)], args := [d1, d2] }
  | _ => none }
def LineScriptWrongFalsely : Prop := lineScriptRow.holds Try.pinned (OpenSpec.ofChange lineScriptWrong)

/-- 'coxswainlaw14.LineGaps': WHATEVER THE INPUT: true; the input reads as it did. -/
def lineGapsSpec : ChangeSpec := { name := "lineGaps", fn := fun _ => fun
  | [d1, d2, d3] => { results := [.lit (.bool true)], args := [d1, d2, d3] }
  | _ => none }
def lineGapsRow : OpenClaim := { program := "ytkaonbolpaedmaa", sum := "ec77b01d1593873e86b9498456468523f467fb1356fe0218ce6c5edc1890eccb", func := "coxswain/coxswainlaw14.LineGaps", spec := "lineGaps", unfollowed := true, recurses := true, apart := false }
def LineGapsSaid : Prop := lineGapsRow.holds Try.pinned (OpenSpec.ofChange lineGapsSpec)

/-- ITS FALSE NEIGHBOUR: 'it returns false'. Refute it at one input. -/
def lineGapsWrong : ChangeSpec := { name := "lineGaps", fn := fun _ => fun
  | [d1, d2, d3] => { results := [.lit (.bool false)], args := [d1, d2, d3] }
  | _ => none }
def LineGapsWrongFalsely : Prop := lineGapsRow.holds Try.pinned (OpenSpec.ofChange lineGapsWrong)

/-- 'coxswainlaw14.LineNone': WHATEVER THE INPUT: true; the input reads as it did. -/
def lineNoneSpec : ChangeSpec := { name := "lineNone", fn := fun _ => fun
  | [d] => { results := [.lit (.bool true)], args := [d] }
  | _ => none }
def lineNoneRow : OpenClaim := { program := "ytkaonbolpaedmaa", sum := "ec77b01d1593873e86b9498456468523f467fb1356fe0218ce6c5edc1890eccb", func := "coxswain/coxswainlaw14.LineNone", spec := "lineNone", unfollowed := true, recurses := true, apart := false }
def LineNoneSaid : Prop := lineNoneRow.holds Try.pinned (OpenSpec.ofChange lineNoneSpec)

/-- ITS FALSE NEIGHBOUR: 'it returns false'. Refute it at one input. -/
def lineNoneWrong : ChangeSpec := { name := "lineNone", fn := fun _ => fun
  | [d] => { results := [.lit (.bool false)], args := [d] }
  | _ => none }
def LineNoneWrongFalsely : Prop := lineNoneRow.holds Try.pinned (OpenSpec.ofChange lineNoneWrong)

/-- 'coxswainlaw14.LineOnce': WHATEVER THE INPUT: true; the input reads as it did. -/
def lineOnceSpec : ChangeSpec := { name := "lineOnce", fn := fun _ => fun
  | [d1, d2, d3] => { results := [.lit (.bool true)], args := [d1, d2, d3] }
  | _ => none }
def lineOnceRow : OpenClaim := { program := "ytkaonbolpaedmaa", sum := "ec77b01d1593873e86b9498456468523f467fb1356fe0218ce6c5edc1890eccb", func := "coxswain/coxswainlaw14.LineOnce", spec := "lineOnce", unfollowed := true, recurses := true, apart := false }
def LineOnceSaid : Prop := lineOnceRow.holds Try.pinned (OpenSpec.ofChange lineOnceSpec)

/-- ITS FALSE NEIGHBOUR: 'it returns false'. Refute it at one input. -/
def lineOnceWrong : ChangeSpec := { name := "lineOnce", fn := fun _ => fun
  | [d1, d2, d3] => { results := [.lit (.bool false)], args := [d1, d2, d3] }
  | _ => none }
def LineOnceWrongFalsely : Prop := lineOnceRow.holds Try.pinned (OpenSpec.ofChange lineOnceWrong)

/-- 'coxswainlaw14.LineShift': WHATEVER THE INPUT: true; the input reads as it did. -/
def lineShiftSpec : ChangeSpec := { name := "lineShift", fn := fun _ => fun
  | [d1, d2, d3, d4] => { results := [.lit (.bool true)], args := [d1, d2, d3, d4] }
  | _ => none }
def lineShiftRow : OpenClaim := { program := "ytkaonbolpaedmaa", sum := "ec77b01d1593873e86b9498456468523f467fb1356fe0218ce6c5edc1890eccb", func := "coxswain/coxswainlaw14.LineShift", spec := "lineShift", unfollowed := true, recurses := true, apart := false }
def LineShiftSaid : Prop := lineShiftRow.holds Try.pinned (OpenSpec.ofChange lineShiftSpec)

/-- ITS FALSE NEIGHBOUR: 'it returns false'. Refute it at one input. -/
def lineShiftWrong : ChangeSpec := { name := "lineShift", fn := fun _ => fun
  | [d1, d2, d3, d4] => { results := [.lit (.bool false)], args := [d1, d2, d3, d4] }
  | _ => none }
def LineShiftWrongFalsely : Prop := lineShiftRow.holds Try.pinned (OpenSpec.ofChange lineShiftWrong)

/- THE SECOND FORM. 'bulk': how many values and letters a reading holds, each counted each time it is reached (what is shared counts as often as it is met; a slice's spare places count too). A statement '..UptoSaid' is the law's where the arguments, and the package variables that the reading takes, are together of bulk at most 1048576: NARROWER than '..Said'. Prove '..Said' where nothing that the law and all that it calls make is longer than what came in: it says more and counts as full. Else prove '..UptoSaid'. A law counts once. -/
mutual
def uptoBulk {H : Type} : DataW H → Nat
  | .lit (.string bytes) => bytes.length + 1
  | .lit _ => 1
  | .nil => 1
  | .ptr d => uptoBulk d + 1
  | .slice elems spare => uptoBulkAll elems + uptoBulkAll spare + 1
  | .agg parts => uptoBulkAll parts + 1
  | .iface _ d => uptoBulk d + 1
  | .map entries => uptoBulkEntries entries + 1
  | .held _ => 1
def uptoBulkAll {H : Type} : List (DataW H) → Nat
  | [] => 0
  | d :: r => uptoBulk d + uptoBulkAll r
def uptoBulkEntries {H : Type} : List (Lit × DataW H) → Nat
  | [] => 0
  | x :: r => uptoBulkEntry x + uptoBulkEntries r
def uptoBulkEntry {H : Type} : Lit × DataW H → Nat
  | (.string bytes, d) => bytes.length + uptoBulk d + 1
  | (_, d) => uptoBulk d + 1
 end
def uptoSmall : (H : Type) → List (DataW H) → Bool := fun _ ds => decide (uptoBulkAll ds ≤ 1048576)
def OpenSpec.upto (s : _root_.Go.ChangeSpec) : _root_.Go.OpenSpec := { _root_.Go.OpenSpec.ofChange s with cond := some uptoSmall }

/-- 'coxswainlaw14.LineScript', WHERE WHAT IT READS IS OF BULK AT MOST 1048576: true; the input reads as it did. -/
def lineScriptUptoRow : OpenClaim := { program := "ytkaonbolpaedmaa", sum := "ec77b01d1593873e86b9498456468523f467fb1356fe0218ce6c5edc1890eccb", func := "coxswain/coxswainlaw14.LineScript", spec := "lineScript", unfollowed := true, recurses := true, apart := false, narrowed := true }
def LineScriptUptoSaid : Prop := lineScriptUptoRow.holds Try.pinned (OpenSpec.upto lineScriptSpec)

/-- 'coxswainlaw14.LineGaps', WHERE WHAT IT READS IS OF BULK AT MOST 1048576: true; the input reads as it did. -/
def lineGapsUptoRow : OpenClaim := { program := "ytkaonbolpaedmaa", sum := "ec77b01d1593873e86b9498456468523f467fb1356fe0218ce6c5edc1890eccb", func := "coxswain/coxswainlaw14.LineGaps", spec := "lineGaps", unfollowed := true, recurses := true, apart := false, narrowed := true }
def LineGapsUptoSaid : Prop := lineGapsUptoRow.holds Try.pinned (OpenSpec.upto lineGapsSpec)

/-- 'coxswainlaw14.LineNone', WHERE WHAT IT READS IS OF BULK AT MOST 1048576: true; the input reads as it did. -/
def lineNoneUptoRow : OpenClaim := { program := "ytkaonbolpaedmaa", sum := "ec77b01d1593873e86b9498456468523f467fb1356fe0218ce6c5edc1890eccb", func := "coxswain/coxswainlaw14.LineNone", spec := "lineNone", unfollowed := true, recurses := true, apart := false, narrowed := true }
def LineNoneUptoSaid : Prop := lineNoneUptoRow.holds Try.pinned (OpenSpec.upto lineNoneSpec)

/-- 'coxswainlaw14.LineOnce', WHERE WHAT IT READS IS OF BULK AT MOST 1048576: true; the input reads as it did. -/
def lineOnceUptoRow : OpenClaim := { program := "ytkaonbolpaedmaa", sum := "ec77b01d1593873e86b9498456468523f467fb1356fe0218ce6c5edc1890eccb", func := "coxswain/coxswainlaw14.LineOnce", spec := "lineOnce", unfollowed := true, recurses := true, apart := false, narrowed := true }
def LineOnceUptoSaid : Prop := lineOnceUptoRow.holds Try.pinned (OpenSpec.upto lineOnceSpec)

/-- 'coxswainlaw14.LineShift', WHERE WHAT IT READS IS OF BULK AT MOST 1048576: true; the input reads as it did. -/
def lineShiftUptoRow : OpenClaim := { program := "ytkaonbolpaedmaa", sum := "ec77b01d1593873e86b9498456468523f467fb1356fe0218ce6c5edc1890eccb", func := "coxswain/coxswainlaw14.LineShift", spec := "lineShift", unfollowed := true, recurses := true, apart := false, narrowed := true }
def LineShiftUptoSaid : Prop := lineShiftUptoRow.holds Try.pinned (OpenSpec.upto lineShiftSpec)

end Rows
end Go.Proofs.Ytkaonbolpaedmaa
