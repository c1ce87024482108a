/-
  No cell of these rows narrows 'for every input' (looked for: loops, veiled, ifaces, maps, wideKeys, modest, calm, conditions, laid).
  DERIVED. THE GIVEN ROWS OF THIS SEAT. 6 by the template 'for every input the law returns true; each argument reads behind the call as it read before'; 0 by the template 'total and deterministic' (their statements: YtofcmcgopdhfeaaTotals.lean).
  GIVEN WITH THE SEED: the statements are not yours to turn. If you find one false, say at which input.
  Laid BY PROGRAM, IN A SANDBOX (cutbox-rows.mjs): the forced cells as the released guide's own fill.sh prints them over the translation 1b222dda902d8e30… (all of the seat's roots in one cut). By AI agents, Wed Nov 11 2026. No macro, syntax, notation, axiom, sorry.
-/
import Derived.Test.YtofcmcgopdhfeaaChecked
import GoSem.Claim
import GoSem.ClaimJoined
import GoSem.ClaimMapViews
import Derived.JoinedTies
import Derived.KernelRfl
namespace Go.Proofs.Ytofcmcgopdhfeaa
/- THE CELL 'sum', in the pinned program and in every row, IS THE sha256 OF THE DUMP (.gsa) THAT YtofcmcgopdhfeaaProg.lean LOADS. Nothing in Lean hashes anything: it is a label: what it is worth is what the hold of that sum in a sandbox is worth. -/
noncomputable def Try.pinned : Pinned := { name := "ytofcmcgopdhfeaa", sum := "1b222dda902d8e30d5263af6be65b3c91a3d88a0b0163c4b4f7cd063422d4878", checked := Try.checked }
namespace Rows
def none {H : Type} : Left H := { results := [], args := [] }

/-- 'coxswainlaw20.StoreKeeps': WHATEVER THE INPUT: true; the input reads as it did. -/
def storeKeepsSpec : ChangeSpec := { name := "storeKeeps", fn := fun _ => fun
  | [d1, d2, d3] => { results := [.lit (.bool true)], args := [d1, d2, d3] }
  | _ => none }
def storeKeepsRow : OpenClaim := { program := "ytofcmcgopdhfeaa", sum := "1b222dda902d8e30d5263af6be65b3c91a3d88a0b0163c4b4f7cd063422d4878", func := "coxswain/coxswainlaw20.StoreKeeps", spec := "storeKeeps", unfollowed := true, recurses := true, apart := false }
def StoreKeepsSaid : Prop := storeKeepsRow.holds Try.pinned (OpenSpec.ofChange storeKeepsSpec)

/-- ITS FALSE NEIGHBOUR: 'it returns false'. Refute it at one input. -/
def storeKeepsWrong : ChangeSpec := { name := "storeKeeps", fn := fun _ => fun
  | [d1, d2, d3] => { results := [.lit (.bool false)], args := [d1, d2, d3] }
  | _ => none }
def StoreKeepsWrongFalsely : Prop := storeKeepsRow.holds Try.pinned (OpenSpec.ofChange storeKeepsWrong)

/-- 'coxswainlaw20.StorePieces': WHATEVER THE INPUT: true; the input reads as it did. -/
def storePiecesSpec : ChangeSpec := { name := "storePieces", fn := fun _ => fun
  | [d1, d2, d3] => { results := [.lit (.bool true)], args := [d1, d2, d3] }
  | _ => none }
def storePiecesRow : OpenClaim := { program := "ytofcmcgopdhfeaa", sum := "1b222dda902d8e30d5263af6be65b3c91a3d88a0b0163c4b4f7cd063422d4878", func := "coxswain/coxswainlaw20.StorePieces", spec := "storePieces", unfollowed := true, recurses := true, apart := false }
def StorePiecesSaid : Prop := storePiecesRow.holds Try.pinned (OpenSpec.ofChange storePiecesSpec)

/-- ITS FALSE NEIGHBOUR: 'it returns false'. Refute it at one input. -/
def storePiecesWrong : ChangeSpec := { name := "storePieces", fn := fun _ => fun
  | [d1, d2, d3] => { results := [.lit (.bool false)], args := [d1, d2, d3] }
  | _ => none }
def StorePiecesWrongFalsely : Prop := storePiecesRow.holds Try.pinned (OpenSpec.ofChange storePiecesWrong)

/-- 'coxswainlaw20.StoreTwo': WHATEVER THE INPUT: true; the input reads as it did. -/
def storeTwoSpec : ChangeSpec := { name := "storeTwo", fn := fun _ => fun
  | [d1, d2, d3, d4] => { results := [.lit (.bool true)], args := [d1, d2, d3, d4] }
  | _ => none }
def storeTwoRow : OpenClaim := { program := "ytofcmcgopdhfeaa", sum := "1b222dda902d8e30d5263af6be65b3c91a3d88a0b0163c4b4f7cd063422d4878", func := "coxswain/coxswainlaw20.StoreTwo", spec := "storeTwo", unfollowed := true, recurses := true, apart := false }
def StoreTwoSaid : Prop := storeTwoRow.holds Try.pinned (OpenSpec.ofChange storeTwoSpec)

/-- ITS FALSE NEIGHBOUR: 'it returns false'. Refute it at one input. -/
def storeTwoWrong : ChangeSpec := { name := "storeTwo", fn := fun _ => fun
  | [d1, d2, d3, d4] => { results := [.lit (.bool false)], args := [d1, d2, d3, d4] }
  | _ => none }
def StoreTwoWrongFalsely : Prop := storeTwoRow.holds Try.pinned (OpenSpec.ofChange storeTwoWrong)

/-- 'coxswainlaw20.StoreScript': WHATEVER THE INPUT: true; the input reads as it did. -/
def storeScriptSpec : ChangeSpec := { name := "storeScript", fn := fun _ => fun
  | [d1, d2] => { results := [.lit (.bool true)], args := [d1, d2] }
  | _ => none }
def storeScriptRow : OpenClaim := { program := "ytofcmcgopdhfeaa", sum := "1b222dda902d8e30d5263af6be65b3c91a3d88a0b0163c4b4f7cd063422d4878", func := "coxswain/coxswainlaw20.StoreScript", spec := "storeScript", unfollowed := true, recurses := true, apart := false }
def StoreScriptSaid : Prop := storeScriptRow.holds Try.pinned (OpenSpec.ofChange storeScriptSpec)

/-- ITS FALSE NEIGHBOUR: 'it returns false'. Refute it at one input. -/
def storeScriptWrong : ChangeSpec := { name := "storeScript", fn := fun _ => fun
  | [d1, d2] => { results := [.lit (.bool false)], args := [d1, d2] }
  | _ => none }
def StoreScriptWrongFalsely : Prop := storeScriptRow.holds Try.pinned (OpenSpec.ofChange storeScriptWrong)

/-- 'coxswainlaw20.StoreFrames': WHATEVER THE INPUT: true; the input reads as it did. -/
def storeFramesSpec : ChangeSpec := { name := "storeFrames", fn := fun _ => fun
  | [d] => { results := [.lit (.bool true)], args := [d] }
  | _ => none }
def storeFramesRow : OpenClaim := { program := "ytofcmcgopdhfeaa", sum := "1b222dda902d8e30d5263af6be65b3c91a3d88a0b0163c4b4f7cd063422d4878", func := "coxswain/coxswainlaw20.StoreFrames", spec := "storeFrames", unfollowed := true, recurses := true, apart := false }
def StoreFramesSaid : Prop := storeFramesRow.holds Try.pinned (OpenSpec.ofChange storeFramesSpec)

/-- ITS FALSE NEIGHBOUR: 'it returns false'. Refute it at one input. -/
def storeFramesWrong : ChangeSpec := { name := "storeFrames", fn := fun _ => fun
  | [d] => { results := [.lit (.bool false)], args := [d] }
  | _ => none }
def StoreFramesWrongFalsely : Prop := storeFramesRow.holds Try.pinned (OpenSpec.ofChange storeFramesWrong)

/-- 'coxswainlaw20.StoreNone': WHATEVER THE INPUT: true; the input reads as it did. -/
def storeNoneSpec : ChangeSpec := { name := "storeNone", fn := fun _ => fun
  | [d1, d2, d3] => { results := [.lit (.bool true)], args := [d1, d2, d3] }
  | _ => none }
def storeNoneRow : OpenClaim := { program := "ytofcmcgopdhfeaa", sum := "1b222dda902d8e30d5263af6be65b3c91a3d88a0b0163c4b4f7cd063422d4878", func := "coxswain/coxswainlaw20.StoreNone", spec := "storeNone", unfollowed := true, recurses := true, apart := false }
def StoreNoneSaid : Prop := storeNoneRow.holds Try.pinned (OpenSpec.ofChange storeNoneSpec)

/-- ITS FALSE NEIGHBOUR: 'it returns false'. Refute it at one input. -/
def storeNoneWrong : ChangeSpec := { name := "storeNone", fn := fun _ => fun
  | [d1, d2, d3] => { results := [.lit (.bool false)], args := [d1, d2, d3] }
  | _ => none }
def StoreNoneWrongFalsely : Prop := storeNoneRow.holds Try.pinned (OpenSpec.ofChange storeNoneWrong)

/- THE SECOND FORM. 'bulk': how many values and letters a reading holds, each counted each time it is reached (what is shared counts as often as it is met; a slice's spare places count too). A statement '..UptoSaid' is the law's where the arguments, and the package variables that the reading takes, are together of bulk at most 1048576: NARROWER than '..Said'. Prove '..Said' where nothing that the law and all that it calls make is longer than what came in: it says more and counts as full. Else prove '..UptoSaid'. A law counts once. -/
mutual
def uptoBulk {H : Type} : DataW H → Nat
  | .lit (.string bytes) => bytes.length + 1
  | .lit _ => 1
  | .nil => 1
  | .ptr d => uptoBulk d + 1
  | .slice elems spare => uptoBulkAll elems + uptoBulkAll spare + 1
  | .agg parts => uptoBulkAll parts + 1
  | .iface _ d => uptoBulk d + 1
  | .map entries => uptoBulkEntries entries + 1
  | .held _ => 1
def uptoBulkAll {H : Type} : List (DataW H) → Nat
  | [] => 0
  | d :: r => uptoBulk d + uptoBulkAll r
def uptoBulkEntries {H : Type} : List (Lit × DataW H) → Nat
  | [] => 0
  | x :: r => uptoBulkEntry x + uptoBulkEntries r
def uptoBulkEntry {H : Type} : Lit × DataW H → Nat
  | (.string bytes, d) => bytes.length + uptoBulk d + 1
  | (_, d) => uptoBulk d + 1
 end
def uptoSmall : (H : Type) → List (DataW H) → Bool := fun _ ds => decide (uptoBulkAll ds ≤ 1048576)
def OpenSpec.upto (s : _root_.Go.ChangeSpec) : _root_.Go.OpenSpec := { _root_.Go.OpenSpec.ofChange s with cond := some uptoSmall }

/-- 'coxswainlaw20.StoreKeeps', WHERE WHAT IT READS IS OF BULK AT MOST 1048576: true; the input reads as it did. -/
def storeKeepsUptoRow : OpenClaim := { program := "ytofcmcgopdhfeaa", sum := "1b222dda902d8e30d5263af6be65b3c91a3d88a0b0163c4b4f7cd063422d4878", func := "coxswain/coxswainlaw20.StoreKeeps", spec := "storeKeeps", unfollowed := true, recurses := true, apart := false, narrowed := true }
def StoreKeepsUptoSaid : Prop := storeKeepsUptoRow.holds Try.pinned (OpenSpec.upto storeKeepsSpec)

/-- 'coxswainlaw20.StorePieces', WHERE WHAT IT READS IS OF BULK AT MOST 1048576: true; the input reads as it did. -/
def storePiecesUptoRow : OpenClaim := { program := "ytofcmcgopdhfeaa", sum := "1b222dda902d8e30d5263af6be65b3c91a3d88a0b0163c4b4f7cd063422d4878", func := "coxswain/coxswainlaw20.StorePieces", spec := "storePieces", unfollowed := true, recurses := true, apart := false, narrowed := true }
def StorePiecesUptoSaid : Prop := storePiecesUptoRow.holds Try.pinned (OpenSpec.upto storePiecesSpec)

/-- 'coxswainlaw20.StoreTwo', WHERE WHAT IT READS IS OF BULK AT MOST 1048576: true; the input reads as it did. -/
def storeTwoUptoRow : OpenClaim := { program := "ytofcmcgopdhfeaa", sum := "1b222dda902d8e30d5263af6be65b3c91a3d88a0b0163c4b4f7cd063422d4878", func := "coxswain/coxswainlaw20.StoreTwo", spec := "storeTwo", unfollowed := true, recurses := true, apart := false, narrowed := true }
def StoreTwoUptoSaid : Prop := storeTwoUptoRow.holds Try.pinned (OpenSpec.upto storeTwoSpec)

/-- 'coxswainlaw20.StoreScript', WHERE WHAT IT READS IS OF BULK AT MOST 1048576: true; the input reads as it did. -/
def storeScriptUptoRow : OpenClaim := { program := "ytofcmcgopdhfeaa", sum := "1b222dda902d8e30d5263af6be65b3c91a3d88a0b0163c4b4f7cd063422d4878", func := "coxswain/coxswainlaw20.StoreScript", spec := "storeScript", unfollowed := true, recurses := true, apart := false, narrowed := true }
def StoreScriptUptoSaid : Prop := storeScriptUptoRow.holds Try.pinned (OpenSpec.upto storeScriptSpec)

/-- 'coxswainlaw20.StoreFrames', WHERE WHAT IT READS IS OF BULK AT MOST 1048576: true; the input reads as it did. -/
def storeFramesUptoRow : OpenClaim := { program := "ytofcmcgopdhfeaa", sum := "1b222dda902d8e30d5263af6be65b3c91a3d88a0b0163c4b4f7cd063422d4878", func := "coxswain/coxswainlaw20.StoreFrames", spec := "storeFrames", unfollowed := true, recurses := true, apart := false, narrowed := true }
def StoreFramesUptoSaid : Prop := storeFramesUptoRow.holds Try.pinned (OpenSpec.upto storeFramesSpec)

/-- 'coxswainlaw20.StoreNone', WHERE WHAT IT READS IS OF BULK AT MOST 1048576: true; the input reads as it did. -/
def storeNoneUptoRow : OpenClaim := { program := "ytofcmcgopdhfeaa", sum := "1b222dda902d8e30d5263af6be65b3c91a3d88a0b0163c4b4f7cd063422d4878", func := "coxswain/coxswainlaw20.StoreNone", spec := "storeNone", unfollowed := true, recurses := true, apart := false, narrowed := true }
def StoreNoneUptoSaid : Prop := storeNoneUptoRow.holds Try.pinned (OpenSpec.upto storeNoneSpec)

end Rows
end Go.Proofs.Ytofcmcgopdhfeaa
