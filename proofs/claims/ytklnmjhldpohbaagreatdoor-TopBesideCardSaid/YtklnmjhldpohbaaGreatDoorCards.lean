/-
  DERIVED. GIVEN WITH THE SEED: THE CARDS: each row of YtklnmjhldpohbaaGreatDoorRows.lean that lists a variable, with what it lists TIED to the program's text (the seventh form; the later family's looks); each row that meets fmt, with fmt's text TOLD by the authors' own Lean function (tested against real Go, not proved from fmt's source: count such statements apart). THE CARD IS WHAT COUNTS. Prove the row's statement (the work); the ties are given (YtklnmjhldpohbaaGreatDoorTie.lean); close each card by the builder's one call (the guide's Derived/Test/ToyasCard.lean, 'card_holds'). Laid BY PROGRAM, IN A SANDBOX (cutbox-door.mjs). By AI agents, Wed Nov 11 2026. No macro, syntax, notation, axiom, sorry.
-/
import Derived.Test.YtklnmjhldpohbaaGreatDoorRows
import GoSem.ClaimSeven
namespace Go.Proofs.YtklnmjhldpohbaaGreatDoor
namespace Rows

/-- THE TIED CARD OF 'coxswaintop.TopBeside'. -/
def topBesideCard : Claim7 := { stood := { row := topBesideRow, standIns := [], harness := (true, "8f2078ec74d910ed0951f7c19beb076a7248795bc88f935aa50d6bf5ee2743ed"), looks := true }, kinds := [], alts := [], laidByText := true, laidKinds := [.data, .pinned], laidTests := true, laidLooks := .later }
def TopBesideCardSaid : Prop := Claim7.holds Tryz.pinned (.plain (OpenSpec.ofChange topBesideSpec)) topBesideCard

/-- THE SECOND FORM's CARD OF 'coxswaintop.TopBeside'. -/
def topBesideUptoCard : Claim7 := { stood := { row := topBesideUptoRow, standIns := [], harness := (true, "8f2078ec74d910ed0951f7c19beb076a7248795bc88f935aa50d6bf5ee2743ed"), looks := true }, kinds := [], alts := [], laidByText := true, laidKinds := [.data, .pinned], laidTests := true, laidLooks := .later }
def TopBesideUptoCardSaid : Prop := Claim7.holds Tryz.pinned (.plain (OpenSpec.upto topBesideSpec)) topBesideUptoCard
end Rows
end Go.Proofs.YtklnmjhldpohbaaGreatDoor
