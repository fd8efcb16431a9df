/-
  DERIVED. GIVEN WITH THE SEED: THE CARDS: each row of YtdmkghgachapaaaDoorRows.lean that lists a variable, with what it lists TIED to the program's text (the seventh form; the later family's looks); each row that meets fmt, with fmt's text TOLD by the authors' own Lean function (tested against real Go, not proved from fmt's source: count such statements apart). THE CARD IS WHAT COUNTS. Prove the row's statement (the work); the ties are given (YtdmkghgachapaaaDoorTie.lean); close each card by the builder's one call (the guide's Derived/Test/ToyasCard.lean, 'card_holds'). Laid BY PROGRAM, IN A SANDBOX (cutbox-door.mjs). By AI agents, Wed Nov 11 2026. No macro, syntax, notation, axiom, sorry.
-/
import Derived.Test.YtdmkghgachapaaaDoorRows
import GoSem.ClaimSeven
namespace Go.Proofs.YtdmkghgachapaaaDoor
namespace Rows

/-- THE TIED CARD OF 'ephemerislaw1.RecurTexts'. -/
def recurTextsCard : Claim7 := { stood := { row := recurTextsRow, standIns := [], harness := (true, "9d9f5ab574db38e56d339acd390f1c3b1cd30e3feabb49939f8eb1e357de40ff"), looks := true }, kinds := [], alts := [], laidByText := true, laidKinds := [.data, .data, .data, .data, .sentinel, .sentinel, .widerDeep, .pinned], laidTests := true, laidLooks := .later }
def RecurTextsCardSaid : Prop := Claim7.holds Tryd.pinned (.plain (OpenSpec.ofChange recurTextsSpec)) recurTextsCard

/-- THE SECOND FORM's CARD OF 'ephemerislaw1.RecurTexts'. -/
def recurTextsUptoCard : Claim7 := { stood := { row := recurTextsUptoRow, standIns := [], harness := (true, "9d9f5ab574db38e56d339acd390f1c3b1cd30e3feabb49939f8eb1e357de40ff"), looks := true }, kinds := [], alts := [], laidByText := true, laidKinds := [.data, .data, .data, .data, .sentinel, .sentinel, .widerDeep, .pinned], laidTests := true, laidLooks := .later }
def RecurTextsUptoCardSaid : Prop := Claim7.holds Tryd.pinned (.plain (OpenSpec.upto recurTextsSpec)) recurTextsUptoCard
end Rows
end Go.Proofs.YtdmkghgachapaaaDoor
