/-
  No cell of these rows narrows 'for every input' (looked for: loops, veiled, ifaces, maps, wideKeys, modest, calm, conditions, laid).
  DERIVED. THE GIVEN ROWS OF THIS SEAT. 4 by the template 'for every input the law returns true; each argument reads behind the call as it read before'; 0 by the template 'total and deterministic' (their statements: YthhfoaffddjjfaaTotals.lean).
  GIVEN WITH THE SEED: the statements are not yours to turn. If you find one false, say at which input.
  Laid BY PROGRAM, IN A SANDBOX (cutbox-rows.mjs): the forced cells as the released guide's own fill.sh prints them over the translation 231993f74419b48c… (all of the seat's roots in one cut). By AI agents, Wed Nov 11 2026. No macro, syntax, notation, axiom, sorry.
-/
import Derived.Test.YthhfoaffddjjfaaChecked
import GoSem.Claim
import GoSem.ClaimJoined
import GoSem.ClaimMapViews
import Derived.JoinedTies
import Derived.KernelRfl
namespace Go.Proofs.Ythhfoaffddjjfaa
/- THE CELL 'sum', in the pinned program and in every row, IS THE sha256 OF THE DUMP (.gsa) THAT YthhfoaffddjjfaaProg.lean LOADS. Nothing in Lean hashes anything: it is a label: what it is worth is what the hold of that sum in a sandbox is worth. -/
noncomputable def Try.pinned : Pinned := { name := "ythhfoaffddjjfaa", sum := "231993f74419b48ce8a1e14c473715fbaedf2b2bb6863ce99783c77916dd49b0", checked := Try.checked }
namespace Rows
def none {H : Type} : Left H := { results := [], args := [] }

/-- 'coxswainlaw15.DogExact': WHATEVER THE INPUT: true; the input reads as it did. -/
def dogExactSpec : ChangeSpec := { name := "dogExact", fn := fun _ => fun
  | [d1, d2] => { results := [.lit (.bool true)], args := [d1, d2] }
  | _ => none }
def dogExactRow : OpenClaim := { program := "ythhfoaffddjjfaa", sum := "231993f74419b48ce8a1e14c473715fbaedf2b2bb6863ce99783c77916dd49b0", func := "coxswain/coxswainlaw15.DogExact", spec := "dogExact", unfollowed := true, recurses := true, apart := false }
def DogExactSaid : Prop := dogExactRow.holds Try.pinned (OpenSpec.ofChange dogExactSpec)

/-- ITS FALSE NEIGHBOUR: 'it returns false'. Refute it at one input. -/
def dogExactWrong : ChangeSpec := { name := "dogExact", fn := fun _ => fun
  | [d1, d2] => { results := [.lit (.bool false)], args := [d1, d2] }
  | _ => none }
def DogExactWrongFalsely : Prop := dogExactRow.holds Try.pinned (OpenSpec.ofChange dogExactWrong)

/-- 'coxswainlaw15.DogScript': WHATEVER THE INPUT: true; the input reads as it did. -/
def dogScriptSpec : ChangeSpec := { name := "dogScript", fn := fun _ => fun
  | [d1, d2] => { results := [.lit (.bool true)], args := [d1, d2] }
  | _ => none }
def dogScriptRow : OpenClaim := { program := "ythhfoaffddjjfaa", sum := "231993f74419b48ce8a1e14c473715fbaedf2b2bb6863ce99783c77916dd49b0", func := "coxswain/coxswainlaw15.DogScript", spec := "dogScript", unfollowed := true, recurses := true, apart := false }
def DogScriptSaid : Prop := dogScriptRow.holds Try.pinned (OpenSpec.ofChange dogScriptSpec)

/-- ITS FALSE NEIGHBOUR: 'it returns false'. Refute it at one input. -/
def dogScriptWrong : ChangeSpec := { name := "dogScript", fn := fun _ => fun
  | [d1, d2] => { results := [.lit (.bool false)], args := [d1, d2] }
  | _ => none }
def DogScriptWrongFalsely : Prop := dogScriptRow.holds Try.pinned (OpenSpec.ofChange dogScriptWrong)

/-- 'coxswainlaw15.DogNone': WHATEVER THE INPUT: true; the input reads as it did. -/
def dogNoneSpec : ChangeSpec := { name := "dogNone", fn := fun _ => fun
  | [d] => { results := [.lit (.bool true)], args := [d] }
  | _ => none }
def dogNoneRow : OpenClaim := { program := "ythhfoaffddjjfaa", sum := "231993f74419b48ce8a1e14c473715fbaedf2b2bb6863ce99783c77916dd49b0", func := "coxswain/coxswainlaw15.DogNone", spec := "dogNone", unfollowed := true, recurses := true, apart := false }
def DogNoneSaid : Prop := dogNoneRow.holds Try.pinned (OpenSpec.ofChange dogNoneSpec)

/-- ITS FALSE NEIGHBOUR: 'it returns false'. Refute it at one input. -/
def dogNoneWrong : ChangeSpec := { name := "dogNone", fn := fun _ => fun
  | [d] => { results := [.lit (.bool false)], args := [d] }
  | _ => none }
def DogNoneWrongFalsely : Prop := dogNoneRow.holds Try.pinned (OpenSpec.ofChange dogNoneWrong)

/-- 'coxswainlaw15.DogMarks': WHATEVER THE INPUT: true; the input reads as it did. -/
def dogMarksSpec : ChangeSpec := { name := "dogMarks", fn := fun _ => fun
  | [d1, d2] => { results := [.lit (.bool true)], args := [d1, d2] }
  | _ => none }
def dogMarksRow : OpenClaim := { program := "ythhfoaffddjjfaa", sum := "231993f74419b48ce8a1e14c473715fbaedf2b2bb6863ce99783c77916dd49b0", func := "coxswain/coxswainlaw15.DogMarks", spec := "dogMarks", unfollowed := true, recurses := true, apart := false }
def DogMarksSaid : Prop := dogMarksRow.holds Try.pinned (OpenSpec.ofChange dogMarksSpec)

/-- ITS FALSE NEIGHBOUR: 'it returns false'. Refute it at one input. -/
def dogMarksWrong : ChangeSpec := { name := "dogMarks", fn := fun _ => fun
  | [d1, d2] => { results := [.lit (.bool false)], args := [d1, d2] }
  | _ => none }
def DogMarksWrongFalsely : Prop := dogMarksRow.holds Try.pinned (OpenSpec.ofChange dogMarksWrong)

/- THE SECOND FORM. 'bulk': how many values and letters a reading holds, each counted each time it is reached (what is shared counts as often as it is met; a slice's spare places count too). A statement '..UptoSaid' is the law's where the arguments, and the package variables that the reading takes, are together of bulk at most 1048576: NARROWER than '..Said'. Prove '..Said' where nothing that the law and all that it calls make is longer than what came in: it says more and counts as full. Else prove '..UptoSaid'. A law counts once. -/
mutual
def uptoBulk {H : Type} : DataW H → Nat
  | .lit (.string bytes) => bytes.length + 1
  | .lit _ => 1
  | .nil => 1
  | .ptr d => uptoBulk d + 1
  | .slice elems spare => uptoBulkAll elems + uptoBulkAll spare + 1
  | .agg parts => uptoBulkAll parts + 1
  | .iface _ d => uptoBulk d + 1
  | .map entries => uptoBulkEntries entries + 1
  | .held _ => 1
def uptoBulkAll {H : Type} : List (DataW H) → Nat
  | [] => 0
  | d :: r => uptoBulk d + uptoBulkAll r
def uptoBulkEntries {H : Type} : List (Lit × DataW H) → Nat
  | [] => 0
  | x :: r => uptoBulkEntry x + uptoBulkEntries r
def uptoBulkEntry {H : Type} : Lit × DataW H → Nat
  | (.string bytes, d) => bytes.length + uptoBulk d + 1
  | (_, d) => uptoBulk d + 1
 end
def uptoSmall : (H : Type) → List (DataW H) → Bool := fun _ ds => decide (uptoBulkAll ds ≤ 1048576)
def OpenSpec.upto (s : _root_.Go.ChangeSpec) : _root_.Go.OpenSpec := { _root_.Go.OpenSpec.ofChange s with cond := some uptoSmall }

/-- 'coxswainlaw15.DogExact', WHERE WHAT IT READS IS OF BULK AT MOST 1048576: true; the input reads as it did. -/
def dogExactUptoRow : OpenClaim := { program := "ythhfoaffddjjfaa", sum := "231993f74419b48ce8a1e14c473715fbaedf2b2bb6863ce99783c77916dd49b0", func := "coxswain/coxswainlaw15.DogExact", spec := "dogExact", unfollowed := true, recurses := true, apart := false, narrowed := true }
def DogExactUptoSaid : Prop := dogExactUptoRow.holds Try.pinned (OpenSpec.upto dogExactSpec)

/-- 'coxswainlaw15.DogScript', WHERE WHAT IT READS IS OF BULK AT MOST 1048576: true; the input reads as it did. -/
def dogScriptUptoRow : OpenClaim := { program := "ythhfoaffddjjfaa", sum := "231993f74419b48ce8a1e14c473715fbaedf2b2bb6863ce99783c77916dd49b0", func := "coxswain/coxswainlaw15.DogScript", spec := "dogScript", unfollowed := true, recurses := true, apart := false, narrowed := true }
def DogScriptUptoSaid : Prop := dogScriptUptoRow.holds Try.pinned (OpenSpec.upto dogScriptSpec)

/-- 'coxswainlaw15.DogNone', WHERE WHAT IT READS IS OF BULK AT MOST 1048576: true; the input reads as it did. -/
def dogNoneUptoRow : OpenClaim := { program := "ythhfoaffddjjfaa", sum := "231993f74419b48ce8a1e14c473715fbaedf2b2bb6863ce99783c77916dd49b0", func := "coxswain/coxswainlaw15.DogNone", spec := "dogNone", unfollowed := true, recurses := true, apart := false, narrowed := true }
def DogNoneUptoSaid : Prop := dogNoneUptoRow.holds Try.pinned (OpenSpec.upto dogNoneSpec)

/-- 'coxswainlaw15.DogMarks', WHERE WHAT IT READS IS OF BULK AT MOST 1048576: true; the input reads as it did. -/
def dogMarksUptoRow : OpenClaim := { program := "ythhfoaffddjjfaa", sum := "231993f74419b48ce8a1e14c473715fbaedf2b2bb6863ce99783c77916dd49b0", func := "coxswain/coxswainlaw15.DogMarks", spec := "dogMarks", unfollowed := true, recurses := true, apart := false, narrowed := true }
def DogMarksUptoSaid : Prop := dogMarksUptoRow.holds Try.pinned (OpenSpec.upto dogMarksSpec)

end Rows
end Go.Proofs.Ythhfoaffddjjfaa
