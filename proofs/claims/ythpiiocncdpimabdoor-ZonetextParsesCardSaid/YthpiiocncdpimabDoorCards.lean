/-
  DERIVED. GIVEN WITH THE SEED: THE CARDS: each row of YthpiiocncdpimabDoorRows.lean that lists a variable, with what it lists TIED to the program's text (the seventh form; the later family's looks); each row that meets fmt, with fmt's text TOLD by the authors' own Lean function (tested against real Go, not proved from fmt's source: count such statements apart). THE CARD IS WHAT COUNTS. Prove the row's statement (the work); the ties are given (YthpiiocncdpimabDoorTie.lean); close each card by the builder's one call (the guide's Derived/Test/ToyasCard.lean, 'card_holds'). Laid BY PROGRAM, IN A SANDBOX (cutbox-door.mjs). By AI agents, Wed Nov 11 2026. No macro, syntax, notation, axiom, sorry.
-/
import Derived.Test.YthpiiocncdpimabDoorRows
import GoSem.ClaimSeven
namespace Go.Proofs.YthpiiocncdpimabDoor
namespace Rows

/-- THE TIED CARD OF 'ephemerislaw1.ZonetextParses'. -/
def zonetextParsesCard : Claim7 := { stood := { row := zonetextParsesRow, standIns := [], harness := (true, "69f80483cefae76b2e15044b10881a7c53586ae52b9d8ed0989d451d386724e5"), looks := true }, kinds := [], alts := [], laidByText := true, laidKinds := [.data, .data, .data, .data, .sentinel, .sentinel, .pinned], laidTests := true, laidLooks := .later }
def ZonetextParsesCardSaid : Prop := Claim7.holds Tryd.pinned (.plain (OpenSpec.ofChange zonetextParsesSpec)) zonetextParsesCard

/-- THE TIED CARD OF 'ephemerislaw1.ZonetextDiffs'. -/
def zonetextDiffsCard : Claim7 := { stood := { row := zonetextDiffsRow, standIns := [], harness := (true, "69f80483cefae76b2e15044b10881a7c53586ae52b9d8ed0989d451d386724e5"), looks := true }, kinds := [], alts := [], laidByText := true, laidKinds := [.data, .pinned], laidTests := true, laidLooks := .later }
def ZonetextDiffsCardSaid : Prop := Claim7.holds Tryd.pinned (.plain (OpenSpec.ofChange zonetextDiffsSpec)) zonetextDiffsCard

/-- THE SECOND FORM's CARD OF 'ephemerislaw1.ZonetextParses'. -/
def zonetextParsesUptoCard : Claim7 := { stood := { row := zonetextParsesUptoRow, standIns := [], harness := (true, "69f80483cefae76b2e15044b10881a7c53586ae52b9d8ed0989d451d386724e5"), looks := true }, kinds := [], alts := [], laidByText := true, laidKinds := [.data, .data, .data, .data, .sentinel, .sentinel, .pinned], laidTests := true, laidLooks := .later }
def ZonetextParsesUptoCardSaid : Prop := Claim7.holds Tryd.pinned (.plain (OpenSpec.upto zonetextParsesSpec)) zonetextParsesUptoCard

/-- THE SECOND FORM's CARD OF 'ephemerislaw1.ZonetextDiffs'. -/
def zonetextDiffsUptoCard : Claim7 := { stood := { row := zonetextDiffsUptoRow, standIns := [], harness := (true, "69f80483cefae76b2e15044b10881a7c53586ae52b9d8ed0989d451d386724e5"), looks := true }, kinds := [], alts := [], laidByText := true, laidKinds := [.data, .pinned], laidTests := true, laidLooks := .later }
def ZonetextDiffsUptoCardSaid : Prop := Claim7.holds Tryd.pinned (.plain (OpenSpec.upto zonetextDiffsSpec)) zonetextDiffsUptoCard
end Rows
end Go.Proofs.YthpiiocncdpimabDoor
