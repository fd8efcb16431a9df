/-
  DERIVED. GIVEN WITH THE SEED: THE CARDS: each row of YtjekdceicjnamabDoorRows.lean that lists a variable, with what it lists TIED to the program's text (the seventh form; the later family's looks); each row that meets fmt, with fmt's text TOLD by the authors' own Lean function (tested against real Go, not proved from fmt's source: count such statements apart). THE CARD IS WHAT COUNTS. Prove the row's statement (the work); the ties are given (YtjekdceicjnamabDoorTie.lean); close each card by the builder's one call (the guide's Derived/Test/ToyasCard.lean, 'card_holds'). Laid BY PROGRAM, IN A SANDBOX (cutbox-door.mjs). By AI agents, Wed Nov 11 2026. No macro, syntax, notation, axiom, sorry.
-/
import Derived.Test.YtjekdceicjnamabDoorRows
import GoSem.ClaimSeven
namespace Go.Proofs.YtjekdceicjnamabDoor
namespace Rows

/-- THE TIED CARD OF 'ephemerislaw1.ZoneChecks'. -/
def zoneChecksCard : Claim7 := { stood := { row := zoneChecksRow, standIns := [], harness := (true, "a9e673f65e7fd908889ee65c04fec14a3fb7dad5f7f2d8118c50d844da32fe3a"), looks := false }, kinds := [], alts := [], laidByText := true, laidKinds := [.data, .pinned], laidTests := true, laidLooks := .later }
def ZoneChecksCardSaid : Prop := Claim7.holds Tryd.pinned (.plain (OpenSpec.ofChange zoneChecksSpec)) zoneChecksCard

/-- THE TIED CARD OF 'ephemerislaw1.ZoneLocals'. -/
def zoneLocalsCard : Claim7 := { stood := { row := zoneLocalsRow, standIns := [], harness := (true, "a9e673f65e7fd908889ee65c04fec14a3fb7dad5f7f2d8118c50d844da32fe3a"), looks := false }, kinds := [], alts := [], laidByText := true, laidKinds := [.data, .pinned], laidTests := true, laidLooks := .later }
def ZoneLocalsCardSaid : Prop := Claim7.holds Tryd.pinned (.plain (OpenSpec.ofChange zoneLocalsSpec)) zoneLocalsCard

/-- THE TIED CARD OF 'ephemerislaw1.ZoneOffsets'. -/
def zoneOffsetsCard : Claim7 := { stood := { row := zoneOffsetsRow, standIns := [], harness := (true, "a9e673f65e7fd908889ee65c04fec14a3fb7dad5f7f2d8118c50d844da32fe3a"), looks := false }, kinds := [], alts := [], laidByText := true, laidKinds := [.data, .pinned], laidTests := true, laidLooks := .later }
def ZoneOffsetsCardSaid : Prop := Claim7.holds Tryd.pinned (.plain (OpenSpec.ofChange zoneOffsetsSpec)) zoneOffsetsCard

/-- THE SECOND FORM's CARD OF 'ephemerislaw1.ZoneChecks'. -/
def zoneChecksUptoCard : Claim7 := { stood := { row := zoneChecksUptoRow, standIns := [], harness := (true, "a9e673f65e7fd908889ee65c04fec14a3fb7dad5f7f2d8118c50d844da32fe3a"), looks := false }, kinds := [], alts := [], laidByText := true, laidKinds := [.data, .pinned], laidTests := true, laidLooks := .later }
def ZoneChecksUptoCardSaid : Prop := Claim7.holds Tryd.pinned (.plain (OpenSpec.upto zoneChecksSpec)) zoneChecksUptoCard

/-- THE SECOND FORM's CARD OF 'ephemerislaw1.ZoneLocals'. -/
def zoneLocalsUptoCard : Claim7 := { stood := { row := zoneLocalsUptoRow, standIns := [], harness := (true, "a9e673f65e7fd908889ee65c04fec14a3fb7dad5f7f2d8118c50d844da32fe3a"), looks := false }, kinds := [], alts := [], laidByText := true, laidKinds := [.data, .pinned], laidTests := true, laidLooks := .later }
def ZoneLocalsUptoCardSaid : Prop := Claim7.holds Tryd.pinned (.plain (OpenSpec.upto zoneLocalsSpec)) zoneLocalsUptoCard

/-- THE SECOND FORM's CARD OF 'ephemerislaw1.ZoneOffsets'. -/
def zoneOffsetsUptoCard : Claim7 := { stood := { row := zoneOffsetsUptoRow, standIns := [], harness := (true, "a9e673f65e7fd908889ee65c04fec14a3fb7dad5f7f2d8118c50d844da32fe3a"), looks := false }, kinds := [], alts := [], laidByText := true, laidKinds := [.data, .pinned], laidTests := true, laidLooks := .later }
def ZoneOffsetsUptoCardSaid : Prop := Claim7.holds Tryd.pinned (.plain (OpenSpec.upto zoneOffsetsSpec)) zoneOffsetsUptoCard
end Rows
end Go.Proofs.YtjekdceicjnamabDoor
