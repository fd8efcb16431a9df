/-
  DERIVED. GIVEN WITH THE SEED: THE CARDS: each row of YtfbmlbenffkpfabDoorRows.lean that lists a variable, with what it lists TIED to the program's text (the seventh form; the later family's looks); each row that meets fmt, with fmt's text TOLD by the authors' own Lean function (tested against real Go, not proved from fmt's source: count such statements apart). THE CARD IS WHAT COUNTS. Prove the row's statement (the work); the ties are given (YtfbmlbenffkpfabDoorTie.lean); close each card by the builder's one call (the guide's Derived/Test/ToyasCard.lean, 'card_holds'). Laid BY PROGRAM, IN A SANDBOX (cutbox-door.mjs). By AI agents, Wed Nov 11 2026. No macro, syntax, notation, axiom, sorry.
-/
import Derived.Test.YtfbmlbenffkpfabDoorRows
import GoSem.ClaimSeven
namespace Go.Proofs.YtfbmlbenffkpfabDoor
namespace Rows

/-- THE TIED CARD OF 'ephemerislaw1.FracTexts'. -/
def fracTextsCard : Claim7 := { stood := { row := fracTextsRow, standIns := [], harness := (true, "35e330cf0da59d0df38c073d05fa09ef24c41979616d03768c2b1d4d34a7a085"), looks := true }, kinds := [], alts := [], laidByText := true, laidKinds := [.data, .data, .data, .sentinel, .sentinel], laidTests := true, laidLooks := .later }
def FracTextsCardSaid : Prop := Claim7.holds Tryd.pinned (.plain (OpenSpec.ofChange fracTextsSpec)) fracTextsCard

/-- THE TIED CARD OF 'ephemerislaw1.SpanChecks'. -/
def spanChecksCard : Claim7 := { stood := { row := spanChecksRow, standIns := [], harness := (true, "35e330cf0da59d0df38c073d05fa09ef24c41979616d03768c2b1d4d34a7a085"), looks := true }, kinds := [], alts := [], laidByText := true, laidKinds := [.data, .data, .data, .data, .sentinel, .sentinel, .pinned], laidTests := true, laidLooks := .later }
def SpanChecksCardSaid : Prop := Claim7.holds Tryd.pinned (.plain (OpenSpec.ofChange spanChecksSpec)) spanChecksCard

/-- THE TIED CARD OF 'ephemerislaw1.RecurTexts'. -/
def recurTextsCard : Claim7 := { stood := { row := recurTextsRow, standIns := [], harness := (true, "35e330cf0da59d0df38c073d05fa09ef24c41979616d03768c2b1d4d34a7a085"), looks := true }, kinds := [], alts := [], laidByText := true, laidKinds := [.data, .data, .data, .data, .sentinel, .sentinel, .widerDeep, .pinned], laidTests := true, laidLooks := .later }
def RecurTextsCardSaid : Prop := Claim7.holds Tryd.pinned (.plain (OpenSpec.ofChange recurTextsSpec)) recurTextsCard

/-- THE SECOND FORM's CARD OF 'ephemerislaw1.FracTexts'. -/
def fracTextsUptoCard : Claim7 := { stood := { row := fracTextsUptoRow, standIns := [], harness := (true, "35e330cf0da59d0df38c073d05fa09ef24c41979616d03768c2b1d4d34a7a085"), looks := true }, kinds := [], alts := [], laidByText := true, laidKinds := [.data, .data, .data, .sentinel, .sentinel], laidTests := true, laidLooks := .later }
def FracTextsUptoCardSaid : Prop := Claim7.holds Tryd.pinned (.plain (OpenSpec.upto fracTextsSpec)) fracTextsUptoCard

/-- THE SECOND FORM's CARD OF 'ephemerislaw1.SpanChecks'. -/
def spanChecksUptoCard : Claim7 := { stood := { row := spanChecksUptoRow, standIns := [], harness := (true, "35e330cf0da59d0df38c073d05fa09ef24c41979616d03768c2b1d4d34a7a085"), looks := true }, kinds := [], alts := [], laidByText := true, laidKinds := [.data, .data, .data, .data, .sentinel, .sentinel, .pinned], laidTests := true, laidLooks := .later }
def SpanChecksUptoCardSaid : Prop := Claim7.holds Tryd.pinned (.plain (OpenSpec.upto spanChecksSpec)) spanChecksUptoCard

/-- THE SECOND FORM's CARD OF 'ephemerislaw1.RecurTexts'. -/
def recurTextsUptoCard : Claim7 := { stood := { row := recurTextsUptoRow, standIns := [], harness := (true, "35e330cf0da59d0df38c073d05fa09ef24c41979616d03768c2b1d4d34a7a085"), looks := true }, kinds := [], alts := [], laidByText := true, laidKinds := [.data, .data, .data, .data, .sentinel, .sentinel, .widerDeep, .pinned], laidTests := true, laidLooks := .later }
def RecurTextsUptoCardSaid : Prop := Claim7.holds Tryd.pinned (.plain (OpenSpec.upto recurTextsSpec)) recurTextsUptoCard
end Rows
end Go.Proofs.YtfbmlbenffkpfabDoor
