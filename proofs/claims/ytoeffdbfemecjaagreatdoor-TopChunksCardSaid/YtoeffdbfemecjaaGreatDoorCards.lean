/-
  DERIVED. GIVEN WITH THE SEED: THE CARDS: each row of YtoeffdbfemecjaaGreatDoorRows.lean that lists a variable, with what it lists TIED to the program's text (the seventh form; the later family's looks); each row that meets fmt, with fmt's text TOLD by the authors' own Lean function (tested against real Go, not proved from fmt's source: count such statements apart). THE CARD IS WHAT COUNTS. Prove the row's statement (the work); the ties are given (YtoeffdbfemecjaaGreatDoorTie.lean); close each card by the builder's one call (the guide's Derived/Test/ToyasCard.lean, 'card_holds'). Laid BY PROGRAM, IN A SANDBOX (cutbox-door.mjs). By AI agents, Wed Nov 11 2026. No macro, syntax, notation, axiom, sorry.
-/
import Derived.Test.YtoeffdbfemecjaaGreatDoorRows
import GoSem.ClaimSeven
namespace Go.Proofs.YtoeffdbfemecjaaGreatDoor
namespace Rows

/-- THE TIED CARD OF 'coxswaintop.TopFreed'. -/
def topFreedCard : Claim7 := { stood := { row := topFreedRow, standIns := [], harness := (true, "54e3daa4fbbe8bae04fd11ddbd898cab78b10c5dc8034e1a32555ff0f5be4270"), looks := true }, kinds := [], alts := [], laidByText := true, laidKinds := [.data, .pinned], laidTests := true, laidLooks := .later }
def TopFreedCardSaid : Prop := Claim7.holds Tryz.pinned (.plain (OpenSpec.ofChange topFreedSpec)) topFreedCard

/-- THE TIED CARD OF 'coxswaintop.TopChunks'. -/
def topChunksCard : Claim7 := { stood := { row := topChunksRow, standIns := [], harness := (true, "54e3daa4fbbe8bae04fd11ddbd898cab78b10c5dc8034e1a32555ff0f5be4270"), looks := true }, kinds := [], alts := [], laidByText := true, laidKinds := [.data, .pinned], laidTests := true, laidLooks := .later }
def TopChunksCardSaid : Prop := Claim7.holds Tryz.pinned (.plain (OpenSpec.ofChange topChunksSpec)) topChunksCard

/-- THE TIED CARD OF 'coxswaintop.TopChained'. -/
def topChainedCard : Claim7 := { stood := { row := topChainedRow, standIns := [], harness := (true, "54e3daa4fbbe8bae04fd11ddbd898cab78b10c5dc8034e1a32555ff0f5be4270"), looks := true }, kinds := [], alts := [], laidByText := true, laidKinds := [.data, .pinned], laidTests := true, laidLooks := .later }
def TopChainedCardSaid : Prop := Claim7.holds Tryz.pinned (.plain (OpenSpec.ofChange topChainedSpec)) topChainedCard

/-- THE TIED CARD OF 'coxswaintop.TopForked'. -/
def topForkedCard : Claim7 := { stood := { row := topForkedRow, standIns := [], harness := (true, "54e3daa4fbbe8bae04fd11ddbd898cab78b10c5dc8034e1a32555ff0f5be4270"), looks := true }, kinds := [], alts := [], laidByText := true, laidKinds := [.data, .pinned], laidTests := true, laidLooks := .later }
def TopForkedCardSaid : Prop := Claim7.holds Tryz.pinned (.plain (OpenSpec.ofChange topForkedSpec)) topForkedCard

/-- THE SECOND FORM's CARD OF 'coxswaintop.TopFreed'. -/
def topFreedUptoCard : Claim7 := { stood := { row := topFreedUptoRow, standIns := [], harness := (true, "54e3daa4fbbe8bae04fd11ddbd898cab78b10c5dc8034e1a32555ff0f5be4270"), looks := true }, kinds := [], alts := [], laidByText := true, laidKinds := [.data, .pinned], laidTests := true, laidLooks := .later }
def TopFreedUptoCardSaid : Prop := Claim7.holds Tryz.pinned (.plain (OpenSpec.upto topFreedSpec)) topFreedUptoCard

/-- THE SECOND FORM's CARD OF 'coxswaintop.TopChunks'. -/
def topChunksUptoCard : Claim7 := { stood := { row := topChunksUptoRow, standIns := [], harness := (true, "54e3daa4fbbe8bae04fd11ddbd898cab78b10c5dc8034e1a32555ff0f5be4270"), looks := true }, kinds := [], alts := [], laidByText := true, laidKinds := [.data, .pinned], laidTests := true, laidLooks := .later }
def TopChunksUptoCardSaid : Prop := Claim7.holds Tryz.pinned (.plain (OpenSpec.upto topChunksSpec)) topChunksUptoCard

/-- THE SECOND FORM's CARD OF 'coxswaintop.TopChained'. -/
def topChainedUptoCard : Claim7 := { stood := { row := topChainedUptoRow, standIns := [], harness := (true, "54e3daa4fbbe8bae04fd11ddbd898cab78b10c5dc8034e1a32555ff0f5be4270"), looks := true }, kinds := [], alts := [], laidByText := true, laidKinds := [.data, .pinned], laidTests := true, laidLooks := .later }
def TopChainedUptoCardSaid : Prop := Claim7.holds Tryz.pinned (.plain (OpenSpec.upto topChainedSpec)) topChainedUptoCard

/-- THE SECOND FORM's CARD OF 'coxswaintop.TopForked'. -/
def topForkedUptoCard : Claim7 := { stood := { row := topForkedUptoRow, standIns := [], harness := (true, "54e3daa4fbbe8bae04fd11ddbd898cab78b10c5dc8034e1a32555ff0f5be4270"), looks := true }, kinds := [], alts := [], laidByText := true, laidKinds := [.data, .pinned], laidTests := true, laidLooks := .later }
def TopForkedUptoCardSaid : Prop := Claim7.holds Tryz.pinned (.plain (OpenSpec.upto topForkedSpec)) topForkedUptoCard
end Rows
end Go.Proofs.YtoeffdbfemecjaaGreatDoor
