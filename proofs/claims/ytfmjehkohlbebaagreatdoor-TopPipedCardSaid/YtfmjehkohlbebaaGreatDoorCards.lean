/-
  DERIVED. GIVEN WITH THE SEED: THE CARDS: each row of YtfmjehkohlbebaaGreatDoorRows.lean that lists a variable, with what it lists TIED to the program's text (the seventh form; the later family's looks); each row that meets fmt, with fmt's text TOLD by the authors' own Lean function (tested against real Go, not proved from fmt's source: count such statements apart). THE CARD IS WHAT COUNTS. Prove the row's statement (the work); the ties are given (YtfmjehkohlbebaaGreatDoorTie.lean); close each card by the builder's one call (the guide's Derived/Test/ToyasCard.lean, 'card_holds'). Laid BY PROGRAM, IN A SANDBOX (cutbox-door.mjs). By AI agents, Wed Nov 11 2026. No macro, syntax, notation, axiom, sorry.
-/
import Derived.Test.YtfmjehkohlbebaaGreatDoorRows
import GoSem.ClaimSeven
namespace Go.Proofs.YtfmjehkohlbebaaGreatDoor
namespace Rows

/-- THE TIED CARD OF 'coxswaintop.TopFires'. -/
def topFiresCard : Claim7 := { stood := { row := topFiresRow, standIns := [], harness := (true, "cd560265057fe7a4dc343d9c7fc8f5dde8485f1bb4d33cc9b7f8795562214e78"), looks := true }, kinds := [], alts := [], laidByText := true, laidKinds := [.data, .pinned], laidTests := true, laidLooks := .later }
def TopFiresCardSaid : Prop := Claim7.holds Tryz.pinned (.plain (OpenSpec.ofChange topFiresSpec)) topFiresCard

/-- THE TIED CARD OF 'coxswaintop.TopStorm'. -/
def topStormCard : Claim7 := { stood := { row := topStormRow, standIns := [], harness := (true, "cd560265057fe7a4dc343d9c7fc8f5dde8485f1bb4d33cc9b7f8795562214e78"), looks := true }, kinds := [], alts := [], laidByText := true, laidKinds := [.data, .pinned], laidTests := true, laidLooks := .later }
def TopStormCardSaid : Prop := Claim7.holds Tryz.pinned (.plain (OpenSpec.ofChange topStormSpec)) topStormCard

/-- THE TIED CARD OF 'coxswaintop.TopDue'. -/
def topDueCard : Claim7 := { stood := { row := topDueRow, standIns := [], harness := (true, "cd560265057fe7a4dc343d9c7fc8f5dde8485f1bb4d33cc9b7f8795562214e78"), looks := true }, kinds := [], alts := [], laidByText := true, laidKinds := [.data, .pinned], laidTests := true, laidLooks := .later }
def TopDueCardSaid : Prop := Claim7.holds Tryz.pinned (.plain (OpenSpec.ofChange topDueSpec)) topDueCard

/-- THE TIED CARD OF 'coxswaintop.TopPiped'. -/
def topPipedCard : Claim7 := { stood := { row := topPipedRow, standIns := [], harness := (true, "cd560265057fe7a4dc343d9c7fc8f5dde8485f1bb4d33cc9b7f8795562214e78"), looks := true }, kinds := [], alts := [], laidByText := true, laidKinds := [.data, .pinned], laidTests := true, laidLooks := .later }
def TopPipedCardSaid : Prop := Claim7.holds Tryz.pinned (.plain (OpenSpec.ofChange topPipedSpec)) topPipedCard

/-- THE SECOND FORM's CARD OF 'coxswaintop.TopFires'. -/
def topFiresUptoCard : Claim7 := { stood := { row := topFiresUptoRow, standIns := [], harness := (true, "cd560265057fe7a4dc343d9c7fc8f5dde8485f1bb4d33cc9b7f8795562214e78"), looks := true }, kinds := [], alts := [], laidByText := true, laidKinds := [.data, .pinned], laidTests := true, laidLooks := .later }
def TopFiresUptoCardSaid : Prop := Claim7.holds Tryz.pinned (.plain (OpenSpec.upto topFiresSpec)) topFiresUptoCard

/-- THE SECOND FORM's CARD OF 'coxswaintop.TopStorm'. -/
def topStormUptoCard : Claim7 := { stood := { row := topStormUptoRow, standIns := [], harness := (true, "cd560265057fe7a4dc343d9c7fc8f5dde8485f1bb4d33cc9b7f8795562214e78"), looks := true }, kinds := [], alts := [], laidByText := true, laidKinds := [.data, .pinned], laidTests := true, laidLooks := .later }
def TopStormUptoCardSaid : Prop := Claim7.holds Tryz.pinned (.plain (OpenSpec.upto topStormSpec)) topStormUptoCard

/-- THE SECOND FORM's CARD OF 'coxswaintop.TopDue'. -/
def topDueUptoCard : Claim7 := { stood := { row := topDueUptoRow, standIns := [], harness := (true, "cd560265057fe7a4dc343d9c7fc8f5dde8485f1bb4d33cc9b7f8795562214e78"), looks := true }, kinds := [], alts := [], laidByText := true, laidKinds := [.data, .pinned], laidTests := true, laidLooks := .later }
def TopDueUptoCardSaid : Prop := Claim7.holds Tryz.pinned (.plain (OpenSpec.upto topDueSpec)) topDueUptoCard

/-- THE SECOND FORM's CARD OF 'coxswaintop.TopPiped'. -/
def topPipedUptoCard : Claim7 := { stood := { row := topPipedUptoRow, standIns := [], harness := (true, "cd560265057fe7a4dc343d9c7fc8f5dde8485f1bb4d33cc9b7f8795562214e78"), looks := true }, kinds := [], alts := [], laidByText := true, laidKinds := [.data, .pinned], laidTests := true, laidLooks := .later }
def TopPipedUptoCardSaid : Prop := Claim7.holds Tryz.pinned (.plain (OpenSpec.upto topPipedSpec)) topPipedUptoCard
end Rows
end Go.Proofs.YtfmjehkohlbebaaGreatDoor
