/-
  DERIVED. GIVEN WITH THE SEED: THE CARDS: each row of YtdmkghgachapaabGreatDoorRows.lean that lists a variable, with what it lists TIED to the program's text (the seventh form; the later family's looks); each row that meets fmt, with fmt's text TOLD by the authors' own Lean function (tested against real Go, not proved from fmt's source: count such statements apart). THE CARD IS WHAT COUNTS. Prove the row's statement (the work); the ties are given (YtdmkghgachapaabGreatDoorTie.lean); close each card by the builder's one call (the guide's Derived/Test/ToyasCard.lean, 'card_holds'). Laid BY PROGRAM, IN A SANDBOX (cutbox-door.mjs). By AI agents, Wed Nov 11 2026. No macro, syntax, notation, axiom, sorry.
-/
import Derived.Test.YtdmkghgachapaabGreatDoorRows
import GoSem.ClaimSeven
namespace Go.Proofs.YtdmkghgachapaabGreatDoor
namespace Rows

/-- THE TIED CARD OF 'ephemerislaw1.FactsChecks'. -/
def factsChecksCard : Claim7 := { stood := { row := factsChecksRow, standIns := [], harness := (true, "3ab50251489770fd8af77e83937eb77725ea839b9e2caf0a37b00ee5877d824a"), looks := true }, kinds := [], alts := [], laidByText := true, laidKinds := [.data, .data, .data, .data, .sentinel, .sentinel, .data, .data, .pinned], laidTests := true, laidLooks := .later }
def FactsChecksCardSaid : Prop := Claim7.holds Tryz.pinned (.plain (OpenSpec.ofChange factsChecksSpec)) factsChecksCard

/-- THE TIED CARD OF 'ephemerislaw1.FeastParses'. -/
def feastParsesCard : Claim7 := { stood := { row := feastParsesRow, standIns := [], harness := (true, "3ab50251489770fd8af77e83937eb77725ea839b9e2caf0a37b00ee5877d824a"), looks := true }, kinds := [], alts := [], laidByText := true, laidKinds := [.data, .data, .data, .data, .sentinel, .sentinel, .data, .data, .pinned], laidTests := true, laidLooks := .later }
def FeastParsesCardSaid : Prop := Claim7.holds Tryz.pinned (.plain (OpenSpec.ofChange feastParsesSpec)) feastParsesCard

/-- THE SECOND FORM's CARD OF 'ephemerislaw1.FactsChecks'. -/
def factsChecksUptoCard : Claim7 := { stood := { row := factsChecksUptoRow, standIns := [], harness := (true, "3ab50251489770fd8af77e83937eb77725ea839b9e2caf0a37b00ee5877d824a"), looks := true }, kinds := [], alts := [], laidByText := true, laidKinds := [.data, .data, .data, .data, .sentinel, .sentinel, .data, .data, .pinned], laidTests := true, laidLooks := .later }
def FactsChecksUptoCardSaid : Prop := Claim7.holds Tryz.pinned (.plain (OpenSpec.upto factsChecksSpec)) factsChecksUptoCard

/-- THE SECOND FORM's CARD OF 'ephemerislaw1.FeastParses'. -/
def feastParsesUptoCard : Claim7 := { stood := { row := feastParsesUptoRow, standIns := [], harness := (true, "3ab50251489770fd8af77e83937eb77725ea839b9e2caf0a37b00ee5877d824a"), looks := true }, kinds := [], alts := [], laidByText := true, laidKinds := [.data, .data, .data, .data, .sentinel, .sentinel, .data, .data, .pinned], laidTests := true, laidLooks := .later }
def FeastParsesUptoCardSaid : Prop := Claim7.holds Tryz.pinned (.plain (OpenSpec.upto feastParsesSpec)) feastParsesUptoCard
end Rows
end Go.Proofs.YtdmkghgachapaabGreatDoor
