/-
  DERIVED. GIVEN WITH THE SEED: THE CARDS: each row of YtjjmbnflhldoeacDoorRows.lean that lists a variable, with what it lists TIED to the program's text (the seventh form; the later family's looks); each row that meets fmt, with fmt's text TOLD by the authors' own Lean function (tested against real Go, not proved from fmt's source: count such statements apart). THE CARD IS WHAT COUNTS. Prove the row's statement (the work); the ties are given (YtjjmbnflhldoeacDoorTie.lean); close each card by the builder's one call (the guide's Derived/Test/ToyasCard.lean, 'card_holds'). Laid BY PROGRAM, IN A SANDBOX (cutbox-door.mjs). By AI agents, Wed Nov 11 2026. No macro, syntax, notation, axiom, sorry.
-/
import Derived.Test.YtjjmbnflhldoeacDoorRows
import GoSem.ClaimSeven
namespace Go.Proofs.YtjjmbnflhldoeacDoor
namespace Rows

/-- THE TIED CARD OF 'ephemerislaw1.FracTexts'. -/
def fracTextsCard : Claim7 := { stood := { row := fracTextsRow, standIns := [], harness := (true, "f5faa08a4601d502c61c1e20c31386c51bfc2d24c0dbe4cc37a4d9150f24216d"), looks := true }, kinds := [], alts := [], laidByText := true, laidKinds := [.data, .data, .data, .sentinel, .sentinel], laidTests := true, laidLooks := .later }
def FracTextsCardSaid : Prop := Claim7.holds Tryd.pinned (.plain (OpenSpec.ofChange fracTextsSpec)) fracTextsCard

/-- THE TIED CARD OF 'ephemerislaw1.PageChecks'. -/
def pageChecksCard : Claim7 := { stood := { row := pageChecksRow, standIns := [], harness := (true, "f5faa08a4601d502c61c1e20c31386c51bfc2d24c0dbe4cc37a4d9150f24216d"), looks := true }, kinds := [], alts := [], laidByText := true, laidKinds := [.data, .pinned], laidTests := true, laidLooks := .later }
def PageChecksCardSaid : Prop := Claim7.holds Tryd.pinned (.plain (OpenSpec.ofChange pageChecksSpec)) pageChecksCard

/-- THE SECOND FORM's CARD OF 'ephemerislaw1.FracTexts'. -/
def fracTextsUptoCard : Claim7 := { stood := { row := fracTextsUptoRow, standIns := [], harness := (true, "f5faa08a4601d502c61c1e20c31386c51bfc2d24c0dbe4cc37a4d9150f24216d"), looks := true }, kinds := [], alts := [], laidByText := true, laidKinds := [.data, .data, .data, .sentinel, .sentinel], laidTests := true, laidLooks := .later }
def FracTextsUptoCardSaid : Prop := Claim7.holds Tryd.pinned (.plain (OpenSpec.upto fracTextsSpec)) fracTextsUptoCard

/-- THE SECOND FORM's CARD OF 'ephemerislaw1.PageChecks'. -/
def pageChecksUptoCard : Claim7 := { stood := { row := pageChecksUptoRow, standIns := [], harness := (true, "f5faa08a4601d502c61c1e20c31386c51bfc2d24c0dbe4cc37a4d9150f24216d"), looks := true }, kinds := [], alts := [], laidByText := true, laidKinds := [.data, .pinned], laidTests := true, laidLooks := .later }
def PageChecksUptoCardSaid : Prop := Claim7.holds Tryd.pinned (.plain (OpenSpec.upto pageChecksSpec)) pageChecksUptoCard
end Rows
end Go.Proofs.YtjjmbnflhldoeacDoor
