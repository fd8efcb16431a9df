/-
  DERIVED. GIVEN WITH THE SEED: THE CARDS: each row of YtjjmbnflhldoeabDoorRows.lean that lists a variable, with what it lists TIED to the program's text (the seventh form; the later family's looks); each row that meets fmt, with fmt's text TOLD by the authors' own Lean function (tested against real Go, not proved from fmt's source: count such statements apart). THE CARD IS WHAT COUNTS. Prove the row's statement (the work); the ties are given (YtjjmbnflhldoeabDoorTie.lean); close each card by the builder's one call (the guide's Derived/Test/ToyasCard.lean, 'card_holds'). Laid BY PROGRAM, IN A SANDBOX (cutbox-door.mjs). By AI agents, Wed Nov 11 2026. No macro, syntax, notation, axiom, sorry.
-/
import Derived.Test.YtjjmbnflhldoeabDoorRows
import GoSem.ClaimSeven
namespace Go.Proofs.YtjjmbnflhldoeabDoor
namespace Rows

/-- THE TIED CARD OF 'ephemerislaw1.ReformChecks'. -/
def reformChecksCard : Claim7 := { stood := { row := reformChecksRow, standIns := [], harness := (true, "32a0b65ff4b565a34af57b264ab103065883197ec866db0dff8df43661855b2f"), looks := false }, kinds := [], alts := [], laidByText := true, laidKinds := [.data, .pinned], laidTests := true, laidLooks := .later }
def ReformChecksCardSaid : Prop := Claim7.holds Tryd.pinned (.plain (OpenSpec.ofChange reformChecksSpec)) reformChecksCard

/-- THE TIED CARD OF 'ephemerislaw1.RulePrints'. -/
def rulePrintsCard : Claim7 := { stood := { row := rulePrintsRow, standIns := [], harness := (true, "32a0b65ff4b565a34af57b264ab103065883197ec866db0dff8df43661855b2f"), looks := false }, kinds := [], alts := [], laidByText := true, laidKinds := [.data, .data, .data, .data, .data], laidTests := true, laidLooks := .later }
def RulePrintsCardSaid : Prop := Claim7.holds Tryd.pinned (.plain (OpenSpec.ofChange rulePrintsSpec)) rulePrintsCard

/-- THE TIED CARD OF 'ephemerislaw1.ZonetextPrints'. -/
def zonetextPrintsCard : Claim7 := { stood := { row := zonetextPrintsRow, standIns := [], harness := (true, "32a0b65ff4b565a34af57b264ab103065883197ec866db0dff8df43661855b2f"), looks := false }, kinds := [], alts := [], laidByText := true, laidKinds := [.data, .data, .data, .data, .pinned], laidTests := true, laidLooks := .later }
def ZonetextPrintsCardSaid : Prop := Claim7.holds Tryd.pinned (.plain (OpenSpec.ofChange zonetextPrintsSpec)) zonetextPrintsCard

/-- THE SECOND FORM's CARD OF 'ephemerislaw1.ReformChecks'. -/
def reformChecksUptoCard : Claim7 := { stood := { row := reformChecksUptoRow, standIns := [], harness := (true, "32a0b65ff4b565a34af57b264ab103065883197ec866db0dff8df43661855b2f"), looks := false }, kinds := [], alts := [], laidByText := true, laidKinds := [.data, .pinned], laidTests := true, laidLooks := .later }
def ReformChecksUptoCardSaid : Prop := Claim7.holds Tryd.pinned (.plain (OpenSpec.upto reformChecksSpec)) reformChecksUptoCard

/-- THE SECOND FORM's CARD OF 'ephemerislaw1.RulePrints'. -/
def rulePrintsUptoCard : Claim7 := { stood := { row := rulePrintsUptoRow, standIns := [], harness := (true, "32a0b65ff4b565a34af57b264ab103065883197ec866db0dff8df43661855b2f"), looks := false }, kinds := [], alts := [], laidByText := true, laidKinds := [.data, .data, .data, .data, .data], laidTests := true, laidLooks := .later }
def RulePrintsUptoCardSaid : Prop := Claim7.holds Tryd.pinned (.plain (OpenSpec.upto rulePrintsSpec)) rulePrintsUptoCard

/-- THE SECOND FORM's CARD OF 'ephemerislaw1.ZonetextPrints'. -/
def zonetextPrintsUptoCard : Claim7 := { stood := { row := zonetextPrintsUptoRow, standIns := [], harness := (true, "32a0b65ff4b565a34af57b264ab103065883197ec866db0dff8df43661855b2f"), looks := false }, kinds := [], alts := [], laidByText := true, laidKinds := [.data, .data, .data, .data, .pinned], laidTests := true, laidLooks := .later }
def ZonetextPrintsUptoCardSaid : Prop := Claim7.holds Tryd.pinned (.plain (OpenSpec.upto zonetextPrintsSpec)) zonetextPrintsUptoCard
end Rows
end Go.Proofs.YtjjmbnflhldoeabDoor
