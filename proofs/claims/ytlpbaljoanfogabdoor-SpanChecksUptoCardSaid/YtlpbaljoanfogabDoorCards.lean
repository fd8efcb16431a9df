/-
  DERIVED. GIVEN WITH THE SEED: THE CARDS: each row of YtlpbaljoanfogabDoorRows.lean that lists a variable, with what it lists TIED to the program's text (the seventh form; the later family's looks); each row that meets fmt, with fmt's text TOLD by the authors' own Lean function (tested against real Go, not proved from fmt's source: count such statements apart). THE CARD IS WHAT COUNTS. Prove the row's statement (the work); the ties are given (YtlpbaljoanfogabDoorTie.lean); close each card by the builder's one call (the guide's Derived/Test/ToyasCard.lean, 'card_holds'). Laid BY PROGRAM, IN A SANDBOX (cutbox-door.mjs). By AI agents, Wed Nov 11 2026. No macro, syntax, notation, axiom, sorry.
-/
import Derived.Test.YtlpbaljoanfogabDoorRows
import GoSem.ClaimSeven
namespace Go.Proofs.YtlpbaljoanfogabDoor
namespace Rows

/-- THE TIED CARD OF 'ephemerislaw1.SpanChecks'. -/
def spanChecksCard : Claim7 := { stood := { row := spanChecksRow, standIns := [], harness := (true, "31433124aedc0f67360fb38947f03cc11ac9cf4828d04c5a77943c3ea10ac57e"), looks := true }, kinds := [], alts := [], laidByText := true, laidKinds := [.data, .data, .data, .data, .sentinel, .sentinel, .pinned], laidTests := true, laidLooks := .later }
def SpanChecksCardSaid : Prop := Claim7.holds Tryd.pinned (.plain (OpenSpec.ofChange spanChecksSpec)) spanChecksCard

/-- THE TIED CARD OF 'ephemerislaw1.RecurTexts'. -/
def recurTextsCard : Claim7 := { stood := { row := recurTextsRow, standIns := [], harness := (true, "31433124aedc0f67360fb38947f03cc11ac9cf4828d04c5a77943c3ea10ac57e"), looks := true }, kinds := [], alts := [], laidByText := true, laidKinds := [.data, .data, .data, .data, .sentinel, .sentinel, .widerDeep, .pinned], laidTests := true, laidLooks := .later }
def RecurTextsCardSaid : Prop := Claim7.holds Tryd.pinned (.plain (OpenSpec.ofChange recurTextsSpec)) recurTextsCard

/-- THE SECOND FORM's CARD OF 'ephemerislaw1.SpanChecks'. -/
def spanChecksUptoCard : Claim7 := { stood := { row := spanChecksUptoRow, standIns := [], harness := (true, "31433124aedc0f67360fb38947f03cc11ac9cf4828d04c5a77943c3ea10ac57e"), looks := true }, kinds := [], alts := [], laidByText := true, laidKinds := [.data, .data, .data, .data, .sentinel, .sentinel, .pinned], laidTests := true, laidLooks := .later }
def SpanChecksUptoCardSaid : Prop := Claim7.holds Tryd.pinned (.plain (OpenSpec.upto spanChecksSpec)) spanChecksUptoCard

/-- THE SECOND FORM's CARD OF 'ephemerislaw1.RecurTexts'. -/
def recurTextsUptoCard : Claim7 := { stood := { row := recurTextsUptoRow, standIns := [], harness := (true, "31433124aedc0f67360fb38947f03cc11ac9cf4828d04c5a77943c3ea10ac57e"), looks := true }, kinds := [], alts := [], laidByText := true, laidKinds := [.data, .data, .data, .data, .sentinel, .sentinel, .widerDeep, .pinned], laidTests := true, laidLooks := .later }
def RecurTextsUptoCardSaid : Prop := Claim7.holds Tryd.pinned (.plain (OpenSpec.upto recurTextsSpec)) recurTextsUptoCard
end Rows
end Go.Proofs.YtlpbaljoanfogabDoor
