/-
  No cell of these rows narrows 'for every input' (looked for: loops, veiled, ifaces, maps, wideKeys, modest, calm, conditions, laid).
  DERIVED. THE GIVEN ROWS OF THIS SEAT. 4 by the template 'for every input the law returns true; each argument reads behind the call as it read before'; 0 by the template 'total and deterministic' (their statements: YtjflhphnbloniaaTotals.lean).
  GIVEN WITH THE SEED: the statements are not yours to turn. If you find one false, say at which input.
  Laid BY PROGRAM, IN A SANDBOX (cutbox-rows.mjs): the forced cells as the released guide's own fill.sh prints them over the translation e40daa78d7b0d6ee… (all of the seat's roots in one cut). By AI agents, Wed Nov 11 2026. No macro, syntax, notation, axiom, sorry.
-/
import Derived.Test.YtjflhphnbloniaaChecked
import GoSem.Claim
import GoSem.ClaimJoined
import GoSem.ClaimMapViews
import Derived.JoinedTies
import Derived.KernelRfl
namespace Go.Proofs.Ytjflhphnbloniaa
/- THE CELL 'sum', in the pinned program and in every row, IS THE sha256 OF THE DUMP (.gsa) THAT YtjflhphnbloniaaProg.lean LOADS. Nothing in Lean hashes anything: it is a label: what it is worth is what the hold of that sum in a sandbox is worth. -/
noncomputable def Try.pinned : Pinned := { name := "ytjflhphnbloniaa", sum := "e40daa78d7b0d6eee438237b9abb9e8e3c6e652c5841dbd69fd32629a71a31fa", checked := Try.checked }
namespace Rows
def none {H : Type} : Left H := { results := [], args := [] }

/-- 'coxswainlaw28.TaskSpaced': WHATEVER THE INPUT: true; the input reads as it did. -/
def taskSpacedSpec : ChangeSpec := { name := "taskSpaced", fn := fun _ => fun
  | [d1, d2] => { results := [.lit (.bool true)], args := [d1, d2] }
  | _ => none }
def taskSpacedRow : OpenClaim := { program := "ytjflhphnbloniaa", sum := "e40daa78d7b0d6eee438237b9abb9e8e3c6e652c5841dbd69fd32629a71a31fa", func := "coxswain/coxswainlaw28.TaskSpaced", spec := "taskSpaced", unfollowed := true, recurses := true, apart := false }
def TaskSpacedSaid : Prop := taskSpacedRow.holds Try.pinned (OpenSpec.ofChange taskSpacedSpec)

/-- ITS FALSE NEIGHBOUR: 'it returns false'. Refute it at one input. -/
def taskSpacedWrong : ChangeSpec := { name := "taskSpaced", fn := fun _ => fun
  | [d1, d2] => { results := [.lit (.bool false)], args := [d1, d2] }
  | _ => none }
def TaskSpacedWrongFalsely : Prop := taskSpacedRow.holds Try.pinned (OpenSpec.ofChange taskSpacedWrong)

/-- 'coxswainlaw28.TaskDue': WHATEVER THE INPUT: true; the input reads as it did. -/
def taskDueSpec : ChangeSpec := { name := "taskDue", fn := fun _ => fun
  | [d1, d2, d3, d4] => { results := [.lit (.bool true)], args := [d1, d2, d3, d4] }
  | _ => none }
def taskDueRow : OpenClaim := { program := "ytjflhphnbloniaa", sum := "e40daa78d7b0d6eee438237b9abb9e8e3c6e652c5841dbd69fd32629a71a31fa", func := "coxswain/coxswainlaw28.TaskDue", spec := "taskDue", unfollowed := true, recurses := true, apart := false }
def TaskDueSaid : Prop := taskDueRow.holds Try.pinned (OpenSpec.ofChange taskDueSpec)

/-- ITS FALSE NEIGHBOUR: 'it returns false'. Refute it at one input. -/
def taskDueWrong : ChangeSpec := { name := "taskDue", fn := fun _ => fun
  | [d1, d2, d3, d4] => { results := [.lit (.bool false)], args := [d1, d2, d3, d4] }
  | _ => none }
def TaskDueWrongFalsely : Prop := taskDueRow.holds Try.pinned (OpenSpec.ofChange taskDueWrong)

/-- 'coxswainlaw28.TaskBudget': WHATEVER THE INPUT: true; the input reads as it did. -/
def taskBudgetSpec : ChangeSpec := { name := "taskBudget", fn := fun _ => fun
  | [d1, d2, d3] => { results := [.lit (.bool true)], args := [d1, d2, d3] }
  | _ => none }
def taskBudgetRow : OpenClaim := { program := "ytjflhphnbloniaa", sum := "e40daa78d7b0d6eee438237b9abb9e8e3c6e652c5841dbd69fd32629a71a31fa", func := "coxswain/coxswainlaw28.TaskBudget", spec := "taskBudget", unfollowed := true, recurses := true, apart := false }
def TaskBudgetSaid : Prop := taskBudgetRow.holds Try.pinned (OpenSpec.ofChange taskBudgetSpec)

/-- ITS FALSE NEIGHBOUR: 'it returns false'. Refute it at one input. -/
def taskBudgetWrong : ChangeSpec := { name := "taskBudget", fn := fun _ => fun
  | [d1, d2, d3] => { results := [.lit (.bool false)], args := [d1, d2, d3] }
  | _ => none }
def TaskBudgetWrongFalsely : Prop := taskBudgetRow.holds Try.pinned (OpenSpec.ofChange taskBudgetWrong)

/-- 'coxswainlaw28.TaskTells': WHATEVER THE INPUT: true; the input reads as it did. -/
def taskTellsSpec : ChangeSpec := { name := "taskTells", fn := fun _ => fun
  | [d1, d2, d3, d4, d5, d6] => { results := [.lit (.bool true)], args := [d1, d2, d3, d4, d5, d6] }
  | _ => none }
def taskTellsRow : OpenClaim := { program := "ytjflhphnbloniaa", sum := "e40daa78d7b0d6eee438237b9abb9e8e3c6e652c5841dbd69fd32629a71a31fa", func := "coxswain/coxswainlaw28.TaskTells", spec := "taskTells", unfollowed := true, recurses := true, apart := false }
def TaskTellsSaid : Prop := taskTellsRow.holds Try.pinned (OpenSpec.ofChange taskTellsSpec)

/-- ITS FALSE NEIGHBOUR: 'it returns false'. Refute it at one input. -/
def taskTellsWrong : ChangeSpec := { name := "taskTells", fn := fun _ => fun
  | [d1, d2, d3, d4, d5, d6] => { results := [.lit (.bool false)], args := [d1, d2, d3, d4, d5, d6] }
  | _ => none }
def TaskTellsWrongFalsely : Prop := taskTellsRow.holds Try.pinned (OpenSpec.ofChange taskTellsWrong)

/- THE SECOND FORM. 'bulk': how many values and letters a reading holds, each counted each time it is reached (what is shared counts as often as it is met; a slice's spare places count too). A statement '..UptoSaid' is the law's where the arguments, and the package variables that the reading takes, are together of bulk at most 1048576: NARROWER than '..Said'. Prove '..Said' where nothing that the law and all that it calls make is longer than what came in: it says more and counts as full. Else prove '..UptoSaid'. A law counts once. -/
mutual
def uptoBulk {H : Type} : DataW H → Nat
  | .lit (.string bytes) => bytes.length + 1
  | .lit _ => 1
  | .nil => 1
  | .ptr d => uptoBulk d + 1
  | .slice elems spare => uptoBulkAll elems + uptoBulkAll spare + 1
  | .agg parts => uptoBulkAll parts + 1
  | .iface _ d => uptoBulk d + 1
  | .map entries => uptoBulkEntries entries + 1
  | .held _ => 1
def uptoBulkAll {H : Type} : List (DataW H) → Nat
  | [] => 0
  | d :: r => uptoBulk d + uptoBulkAll r
def uptoBulkEntries {H : Type} : List (Lit × DataW H) → Nat
  | [] => 0
  | x :: r => uptoBulkEntry x + uptoBulkEntries r
def uptoBulkEntry {H : Type} : Lit × DataW H → Nat
  | (.string bytes, d) => bytes.length + uptoBulk d + 1
  | (_, d) => uptoBulk d + 1
 end
def uptoSmall : (H : Type) → List (DataW H) → Bool := fun _ ds => decide (uptoBulkAll ds ≤ 1048576)
def OpenSpec.upto (s : _root_.Go.ChangeSpec) : _root_.Go.OpenSpec := { _root_.Go.OpenSpec.ofChange s with cond := some uptoSmall }

/-- 'coxswainlaw28.TaskSpaced', WHERE WHAT IT READS IS OF BULK AT MOST 1048576: true; the input reads as it did. -/
def taskSpacedUptoRow : OpenClaim := { program := "ytjflhphnbloniaa", sum := "e40daa78d7b0d6eee438237b9abb9e8e3c6e652c5841dbd69fd32629a71a31fa", func := "coxswain/coxswainlaw28.TaskSpaced", spec := "taskSpaced", unfollowed := true, recurses := true, apart := false, narrowed := true }
def TaskSpacedUptoSaid : Prop := taskSpacedUptoRow.holds Try.pinned (OpenSpec.upto taskSpacedSpec)

/-- 'coxswainlaw28.TaskDue', WHERE WHAT IT READS IS OF BULK AT MOST 1048576: true; the input reads as it did. -/
def taskDueUptoRow : OpenClaim := { program := "ytjflhphnbloniaa", sum := "e40daa78d7b0d6eee438237b9abb9e8e3c6e652c5841dbd69fd32629a71a31fa", func := "coxswain/coxswainlaw28.TaskDue", spec := "taskDue", unfollowed := true, recurses := true, apart := false, narrowed := true }
def TaskDueUptoSaid : Prop := taskDueUptoRow.holds Try.pinned (OpenSpec.upto taskDueSpec)

/-- 'coxswainlaw28.TaskBudget', WHERE WHAT IT READS IS OF BULK AT MOST 1048576: true; the input reads as it did. -/
def taskBudgetUptoRow : OpenClaim := { program := "ytjflhphnbloniaa", sum := "e40daa78d7b0d6eee438237b9abb9e8e3c6e652c5841dbd69fd32629a71a31fa", func := "coxswain/coxswainlaw28.TaskBudget", spec := "taskBudget", unfollowed := true, recurses := true, apart := false, narrowed := true }
def TaskBudgetUptoSaid : Prop := taskBudgetUptoRow.holds Try.pinned (OpenSpec.upto taskBudgetSpec)

/-- 'coxswainlaw28.TaskTells', WHERE WHAT IT READS IS OF BULK AT MOST 1048576: true; the input reads as it did. -/
def taskTellsUptoRow : OpenClaim := { program := "ytjflhphnbloniaa", sum := "e40daa78d7b0d6eee438237b9abb9e8e3c6e652c5841dbd69fd32629a71a31fa", func := "coxswain/coxswainlaw28.TaskTells", spec := "taskTells", unfollowed := true, recurses := true, apart := false, narrowed := true }
def TaskTellsUptoSaid : Prop := taskTellsUptoRow.holds Try.pinned (OpenSpec.upto taskTellsSpec)

end Rows
end Go.Proofs.Ytjflhphnbloniaa
