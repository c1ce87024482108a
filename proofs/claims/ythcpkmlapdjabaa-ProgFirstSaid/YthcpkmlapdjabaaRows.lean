/-
  No cell of these rows narrows 'for every input' (looked for: loops, veiled, ifaces, maps, wideKeys, modest, calm, conditions, laid).
  DERIVED. THE GIVEN ROWS OF THIS SEAT. 4 by the template 'for every input the law returns true; each argument reads behind the call as it read before'; 0 by the template 'total and deterministic' (their statements: YthcpkmlapdjabaaTotals.lean).
  GIVEN WITH THE SEED: the statements are not yours to turn. If you find one false, say at which input.
  Laid BY PROGRAM, IN A SANDBOX (cutbox-rows.mjs): the forced cells as the released guide's own fill.sh prints them over the translation 6fb90a0f78a496a8… (all of the seat's roots in one cut). By AI agents, Wed Nov 11 2026. No macro, syntax, notation, axiom, sorry.
-/
import Derived.Test.YthcpkmlapdjabaaChecked
import GoSem.Claim
import GoSem.ClaimJoined
import GoSem.ClaimMapViews
import Derived.JoinedTies
import Derived.KernelRfl
namespace Go.Proofs.Ythcpkmlapdjabaa
/- THE CELL 'sum', in the pinned program and in every row, IS THE sha256 OF THE DUMP (.gsa) THAT YthcpkmlapdjabaaProg.lean LOADS. Nothing in Lean hashes anything: it is a label: what it is worth is what the hold of that sum in a sandbox is worth. -/
noncomputable def Try.pinned : Pinned := { name := "ythcpkmlapdjabaa", sum := "6fb90a0f78a496a8a1fc50aa4b320183d33e3748ed768e5c1d1c8f413084eee8", checked := Try.checked }
namespace Rows
def none {H : Type} : Left H := { results := [], args := [] }

/-- 'coxswainlaw9.ProgMay': WHATEVER THE INPUT: true; the input reads as it did. -/
def progMaySpec : ChangeSpec := { name := "progMay", fn := fun _ => fun
  | [d] => { results := [.lit (.bool true)], args := [d] }
  | _ => none }
def progMayRow : OpenClaim := { program := "ythcpkmlapdjabaa", sum := "6fb90a0f78a496a8a1fc50aa4b320183d33e3748ed768e5c1d1c8f413084eee8", func := "coxswain/coxswainlaw9.ProgMay", spec := "progMay", unfollowed := true, recurses := true, apart := false }
def ProgMaySaid : Prop := progMayRow.holds Try.pinned (OpenSpec.ofChange progMaySpec)

/-- ITS FALSE NEIGHBOUR: 'it returns false'. Refute it at one input. -/
def progMayWrong : ChangeSpec := { name := "progMay", fn := fun _ => fun
  | [d] => { results := [.lit (.bool false)], args := [d] }
  | _ => none }
def ProgMayWrongFalsely : Prop := progMayRow.holds Try.pinned (OpenSpec.ofChange progMayWrong)

/-- 'coxswainlaw9.ProgFix': WHATEVER THE INPUT: true; the input reads as it did. -/
def progFixSpec : ChangeSpec := { name := "progFix", fn := fun _ => fun
  | [d] => { results := [.lit (.bool true)], args := [d] }
  | _ => none }
def progFixRow : OpenClaim := { program := "ythcpkmlapdjabaa", sum := "6fb90a0f78a496a8a1fc50aa4b320183d33e3748ed768e5c1d1c8f413084eee8", func := "coxswain/coxswainlaw9.ProgFix", spec := "progFix", unfollowed := true, recurses := true, apart := false }
def ProgFixSaid : Prop := progFixRow.holds Try.pinned (OpenSpec.ofChange progFixSpec)

/-- ITS FALSE NEIGHBOUR: 'it returns false'. Refute it at one input. -/
def progFixWrong : ChangeSpec := { name := "progFix", fn := fun _ => fun
  | [d] => { results := [.lit (.bool false)], args := [d] }
  | _ => none }
def ProgFixWrongFalsely : Prop := progFixRow.holds Try.pinned (OpenSpec.ofChange progFixWrong)

/-- 'coxswainlaw9.ProgBare': WHATEVER THE INPUT: true; the input reads as it did. -/
def progBareSpec : ChangeSpec := { name := "progBare", fn := fun _ => fun
  | [d1, d2, d3] => { results := [.lit (.bool true)], args := [d1, d2, d3] }
  | _ => none }
def progBareRow : OpenClaim := { program := "ythcpkmlapdjabaa", sum := "6fb90a0f78a496a8a1fc50aa4b320183d33e3748ed768e5c1d1c8f413084eee8", func := "coxswain/coxswainlaw9.ProgBare", spec := "progBare", unfollowed := true, recurses := true, apart := false }
def ProgBareSaid : Prop := progBareRow.holds Try.pinned (OpenSpec.ofChange progBareSpec)

/-- ITS FALSE NEIGHBOUR: 'it returns false'. Refute it at one input. -/
def progBareWrong : ChangeSpec := { name := "progBare", fn := fun _ => fun
  | [d1, d2, d3] => { results := [.lit (.bool false)], args := [d1, d2, d3] }
  | _ => none }
def ProgBareWrongFalsely : Prop := progBareRow.holds Try.pinned (OpenSpec.ofChange progBareWrong)

/-- 'coxswainlaw9.ProgFirst': WHATEVER THE INPUT: true; the input reads as it did. -/
def progFirstSpec : ChangeSpec := { name := "progFirst", fn := fun _ => fun
  | [d1, d2] => { results := [.lit (.bool true)], args := [d1, d2] }
  | _ => none }
def progFirstRow : OpenClaim := { program := "ythcpkmlapdjabaa", sum := "6fb90a0f78a496a8a1fc50aa4b320183d33e3748ed768e5c1d1c8f413084eee8", func := "coxswain/coxswainlaw9.ProgFirst", spec := "progFirst", unfollowed := true, recurses := true, apart := false }
def ProgFirstSaid : Prop := progFirstRow.holds Try.pinned (OpenSpec.ofChange progFirstSpec)

/-- ITS FALSE NEIGHBOUR: 'it returns false'. Refute it at one input. -/
def progFirstWrong : ChangeSpec := { name := "progFirst", fn := fun _ => fun
  | [d1, d2] => { results := [.lit (.bool false)], args := [d1, d2] }
  | _ => none }
def ProgFirstWrongFalsely : Prop := progFirstRow.holds Try.pinned (OpenSpec.ofChange progFirstWrong)

/- THE SECOND FORM. 'bulk': how many values and letters a reading holds, each counted each time it is reached (what is shared counts as often as it is met; a slice's spare places count too). A statement '..UptoSaid' is the law's where the arguments, and the package variables that the reading takes, are together of bulk at most 1048576: NARROWER than '..Said'. Prove '..Said' where nothing that the law and all that it calls make is longer than what came in: it says more and counts as full. Else prove '..UptoSaid'. A law counts once. -/
mutual
def uptoBulk {H : Type} : DataW H → Nat
  | .lit (.string bytes) => bytes.length + 1
  | .lit _ => 1
  | .nil => 1
  | .ptr d => uptoBulk d + 1
  | .slice elems spare => uptoBulkAll elems + uptoBulkAll spare + 1
  | .agg parts => uptoBulkAll parts + 1
  | .iface _ d => uptoBulk d + 1
  | .map entries => uptoBulkEntries entries + 1
  | .held _ => 1
def uptoBulkAll {H : Type} : List (DataW H) → Nat
  | [] => 0
  | d :: r => uptoBulk d + uptoBulkAll r
def uptoBulkEntries {H : Type} : List (Lit × DataW H) → Nat
  | [] => 0
  | x :: r => uptoBulkEntry x + uptoBulkEntries r
def uptoBulkEntry {H : Type} : Lit × DataW H → Nat
  | (.string bytes, d) => bytes.length + uptoBulk d + 1
  | (_, d) => uptoBulk d + 1
 end
def uptoSmall : (H : Type) → List (DataW H) → Bool := fun _ ds => decide (uptoBulkAll ds ≤ 1048576)
def OpenSpec.upto (s : _root_.Go.ChangeSpec) : _root_.Go.OpenSpec := { _root_.Go.OpenSpec.ofChange s with cond := some uptoSmall }

/-- 'coxswainlaw9.ProgMay', WHERE WHAT IT READS IS OF BULK AT MOST 1048576: true; the input reads as it did. -/
def progMayUptoRow : OpenClaim := { program := "ythcpkmlapdjabaa", sum := "6fb90a0f78a496a8a1fc50aa4b320183d33e3748ed768e5c1d1c8f413084eee8", func := "coxswain/coxswainlaw9.ProgMay", spec := "progMay", unfollowed := true, recurses := true, apart := false, narrowed := true }
def ProgMayUptoSaid : Prop := progMayUptoRow.holds Try.pinned (OpenSpec.upto progMaySpec)

/-- 'coxswainlaw9.ProgFix', WHERE WHAT IT READS IS OF BULK AT MOST 1048576: true; the input reads as it did. -/
def progFixUptoRow : OpenClaim := { program := "ythcpkmlapdjabaa", sum := "6fb90a0f78a496a8a1fc50aa4b320183d33e3748ed768e5c1d1c8f413084eee8", func := "coxswain/coxswainlaw9.ProgFix", spec := "progFix", unfollowed := true, recurses := true, apart := false, narrowed := true }
def ProgFixUptoSaid : Prop := progFixUptoRow.holds Try.pinned (OpenSpec.upto progFixSpec)

/-- 'coxswainlaw9.ProgBare', WHERE WHAT IT READS IS OF BULK AT MOST 1048576: true; the input reads as it did. -/
def progBareUptoRow : OpenClaim := { program := "ythcpkmlapdjabaa", sum := "6fb90a0f78a496a8a1fc50aa4b320183d33e3748ed768e5c1d1c8f413084eee8", func := "coxswain/coxswainlaw9.ProgBare", spec := "progBare", unfollowed := true, recurses := true, apart := false, narrowed := true }
def ProgBareUptoSaid : Prop := progBareUptoRow.holds Try.pinned (OpenSpec.upto progBareSpec)

/-- 'coxswainlaw9.ProgFirst', WHERE WHAT IT READS IS OF BULK AT MOST 1048576: true; the input reads as it did. -/
def progFirstUptoRow : OpenClaim := { program := "ythcpkmlapdjabaa", sum := "6fb90a0f78a496a8a1fc50aa4b320183d33e3748ed768e5c1d1c8f413084eee8", func := "coxswain/coxswainlaw9.ProgFirst", spec := "progFirst", unfollowed := true, recurses := true, apart := false, narrowed := true }
def ProgFirstUptoSaid : Prop := progFirstUptoRow.holds Try.pinned (OpenSpec.upto progFirstSpec)

end Rows
end Go.Proofs.Ythcpkmlapdjabaa
