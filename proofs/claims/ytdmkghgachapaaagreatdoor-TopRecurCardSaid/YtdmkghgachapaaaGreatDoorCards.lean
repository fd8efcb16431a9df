/-
  DERIVED. GIVEN WITH THE SEED: THE CARDS: each row of YtdmkghgachapaaaGreatDoorRows.lean that lists a variable, with what it lists TIED to the program's text (the seventh form; the later family's looks); each row that meets fmt, with fmt's text TOLD by the authors' own Lean function (tested against real Go, not proved from fmt's source: count such statements apart). THE CARD IS WHAT COUNTS. Prove the row's statement (the work); the ties are given (YtdmkghgachapaaaGreatDoorTie.lean); close each card by the builder's one call (the guide's Derived/Test/ToyasCard.lean, 'card_holds'). Laid BY PROGRAM, IN A SANDBOX (cutbox-door.mjs). By AI agents, Wed Nov 11 2026. No macro, syntax, notation, axiom, sorry.
-/
import Derived.Test.YtdmkghgachapaaaGreatDoorRows
import GoSem.ClaimSeven
namespace Go.Proofs.YtdmkghgachapaaaGreatDoor
namespace Rows

/-- THE TIED CARD OF 'ephemeristop.TopRecur'. -/
def topRecurCard : Claim7 := { stood := { row := topRecurRow, standIns := [], harness := (true, "8078599dd868ec3236e319dbb7aee7efe5e94c2c412198922d38c91833a8a685"), looks := true }, kinds := [], alts := [], laidByText := true, laidKinds := [.data, .data, .data, .data, .sentinel, .sentinel, .widerDeep, .pinned], laidTests := true, laidLooks := .later }
def TopRecurCardSaid : Prop := Claim7.holds Tryz.pinned (.plain (OpenSpec.ofChange topRecurSpec)) topRecurCard

/-- THE SECOND FORM's CARD OF 'ephemeristop.TopRecur'. -/
def topRecurUptoCard : Claim7 := { stood := { row := topRecurUptoRow, standIns := [], harness := (true, "8078599dd868ec3236e319dbb7aee7efe5e94c2c412198922d38c91833a8a685"), looks := true }, kinds := [], alts := [], laidByText := true, laidKinds := [.data, .data, .data, .data, .sentinel, .sentinel, .widerDeep, .pinned], laidTests := true, laidLooks := .later }
def TopRecurUptoCardSaid : Prop := Claim7.holds Tryz.pinned (.plain (OpenSpec.upto topRecurSpec)) topRecurUptoCard
end Rows
end Go.Proofs.YtdmkghgachapaaaGreatDoor
