/-
  DERIVED. GIVEN WITH THE SEED: THE CARDS: each row of YtfbmlbenffkpfaaGreatDoorRows.lean that lists a variable, with what it lists TIED to the program's text (the seventh form; the later family's looks); each row that meets fmt, with fmt's text TOLD by the authors' own Lean function (tested against real Go, not proved from fmt's source: count such statements apart). THE CARD IS WHAT COUNTS. Prove the row's statement (the work); the ties are given (YtfbmlbenffkpfaaGreatDoorTie.lean); close each card by the builder's one call (the guide's Derived/Test/ToyasCard.lean, 'card_holds'). Laid BY PROGRAM, IN A SANDBOX (cutbox-door.mjs). By AI agents, Wed Nov 11 2026. No macro, syntax, notation, axiom, sorry.
-/
import Derived.Test.YtfbmlbenffkpfaaGreatDoorRows
import GoSem.ClaimSeven
namespace Go.Proofs.YtfbmlbenffkpfaaGreatDoor
namespace Rows

/-- THE TIED CARD OF 'ephemerislaw1.CatalogTexts'. -/
def catalogTextsCard : Claim7 := { stood := { row := catalogTextsRow, standIns := [], harness := (true, "75819c65f35f9397504033462d89ff64999815f6743b99a06dc9fc334a8102cb"), looks := true }, kinds := [], alts := [], laidByText := true, laidKinds := [.data, .data, .data, .data, .sentinel, .sentinel, .data, .data, .pinned], laidTests := true, laidLooks := .later }
def CatalogTextsCardSaid : Prop := Claim7.holds Tryz.pinned (.plain (OpenSpec.ofChange catalogTextsSpec)) catalogTextsCard

/-- THE TIED CARD OF 'ephemerislaw1.CatalogCalendars'. -/
def catalogCalendarsCard : Claim7 := { stood := { row := catalogCalendarsRow, standIns := [], harness := (true, "75819c65f35f9397504033462d89ff64999815f6743b99a06dc9fc334a8102cb"), looks := true }, kinds := [], alts := [], laidByText := true, laidKinds := [.data, .data, .data, .data, .sentinel, .sentinel, .data, .data, .pinned], laidTests := true, laidLooks := .later }
def CatalogCalendarsCardSaid : Prop := Claim7.holds Tryz.pinned (.plain (OpenSpec.ofChange catalogCalendarsSpec)) catalogCalendarsCard

/-- THE TIED CARD OF 'ephemerislaw1.CatalogDates'. -/
def catalogDatesCard : Claim7 := { stood := { row := catalogDatesRow, standIns := [], harness := (true, "75819c65f35f9397504033462d89ff64999815f6743b99a06dc9fc334a8102cb"), looks := true }, kinds := [], alts := [], laidByText := true, laidKinds := [.data, .data, .data, .data, .sentinel, .sentinel, .data, .data, .pinned], laidTests := true, laidLooks := .later }
def CatalogDatesCardSaid : Prop := Claim7.holds Tryz.pinned (.plain (OpenSpec.ofChange catalogDatesSpec)) catalogDatesCard

/-- THE TIED CARD OF 'ephemerislaw1.ReformDates'. -/
def reformDatesCard : Claim7 := { stood := { row := reformDatesRow, standIns := [], harness := (true, "75819c65f35f9397504033462d89ff64999815f6743b99a06dc9fc334a8102cb"), looks := true }, kinds := [], alts := [], laidByText := true, laidKinds := [.data, .data, .data, .data, .sentinel, .sentinel, .data, .data, .pinned], laidTests := true, laidLooks := .later }
def ReformDatesCardSaid : Prop := Claim7.holds Tryz.pinned (.plain (OpenSpec.ofChange reformDatesSpec)) reformDatesCard

/-- THE TIED CARD OF 'ephemerislaw1.ReformLists'. -/
def reformListsCard : Claim7 := { stood := { row := reformListsRow, standIns := [], harness := (true, "75819c65f35f9397504033462d89ff64999815f6743b99a06dc9fc334a8102cb"), looks := true }, kinds := [], alts := [], laidByText := true, laidKinds := [.data, .data, .data, .data, .sentinel, .sentinel, .data, .data, .pinned], laidTests := true, laidLooks := .later }
def ReformListsCardSaid : Prop := Claim7.holds Tryz.pinned (.plain (OpenSpec.ofChange reformListsSpec)) reformListsCard

/-- THE TIED CARD OF 'ephemerislaw1.ReformJumps'. -/
def reformJumpsCard : Claim7 := { stood := { row := reformJumpsRow, standIns := [], harness := (true, "75819c65f35f9397504033462d89ff64999815f6743b99a06dc9fc334a8102cb"), looks := true }, kinds := [], alts := [], laidByText := true, laidKinds := [.data, .data, .data, .data, .sentinel, .sentinel, .data, .data, .pinned], laidTests := true, laidLooks := .later }
def ReformJumpsCardSaid : Prop := Claim7.holds Tryz.pinned (.plain (OpenSpec.ofChange reformJumpsSpec)) reformJumpsCard

/-- THE TIED CARD OF 'ephemerislaw1.EraSays'. -/
def eraSaysCard : Claim7 := { stood := { row := eraSaysRow, standIns := [], harness := (true, "75819c65f35f9397504033462d89ff64999815f6743b99a06dc9fc334a8102cb"), looks := true }, kinds := [], alts := [], laidByText := true, laidKinds := [.data, .data, .data, .data, .sentinel, .sentinel, .data, .data, .pinned], laidTests := true, laidLooks := .later }
def EraSaysCardSaid : Prop := Claim7.holds Tryz.pinned (.plain (OpenSpec.ofChange eraSaysSpec)) eraSaysCard

/-- THE TIED CARD OF 'ephemerislaw1.EraFinds'. -/
def eraFindsCard : Claim7 := { stood := { row := eraFindsRow, standIns := [], harness := (true, "75819c65f35f9397504033462d89ff64999815f6743b99a06dc9fc334a8102cb"), looks := true }, kinds := [], alts := [], laidByText := true, laidKinds := [.data, .data, .data, .data, .sentinel, .sentinel, .data, .data, .pinned], laidTests := true, laidLooks := .later }
def EraFindsCardSaid : Prop := Claim7.holds Tryz.pinned (.plain (OpenSpec.ofChange eraFindsSpec)) eraFindsCard

/-- THE TIED CARD OF 'ephemeristop.TopEras'. -/
def topErasCard : Claim7 := { stood := { row := topErasRow, standIns := [], harness := (true, "75819c65f35f9397504033462d89ff64999815f6743b99a06dc9fc334a8102cb"), looks := true }, kinds := [], alts := [], laidByText := true, laidKinds := [.data, .data, .data, .data, .sentinel, .sentinel, .data, .data, .pinned], laidTests := true, laidLooks := .later }
def TopErasCardSaid : Prop := Claim7.holds Tryz.pinned (.plain (OpenSpec.ofChange topErasSpec)) topErasCard

/-- THE SECOND FORM's CARD OF 'ephemerislaw1.CatalogTexts'. -/
def catalogTextsUptoCard : Claim7 := { stood := { row := catalogTextsUptoRow, standIns := [], harness := (true, "75819c65f35f9397504033462d89ff64999815f6743b99a06dc9fc334a8102cb"), looks := true }, kinds := [], alts := [], laidByText := true, laidKinds := [.data, .data, .data, .data, .sentinel, .sentinel, .data, .data, .pinned], laidTests := true, laidLooks := .later }
def CatalogTextsUptoCardSaid : Prop := Claim7.holds Tryz.pinned (.plain (OpenSpec.upto catalogTextsSpec)) catalogTextsUptoCard

/-- THE SECOND FORM's CARD OF 'ephemerislaw1.CatalogCalendars'. -/
def catalogCalendarsUptoCard : Claim7 := { stood := { row := catalogCalendarsUptoRow, standIns := [], harness := (true, "75819c65f35f9397504033462d89ff64999815f6743b99a06dc9fc334a8102cb"), looks := true }, kinds := [], alts := [], laidByText := true, laidKinds := [.data, .data, .data, .data, .sentinel, .sentinel, .data, .data, .pinned], laidTests := true, laidLooks := .later }
def CatalogCalendarsUptoCardSaid : Prop := Claim7.holds Tryz.pinned (.plain (OpenSpec.upto catalogCalendarsSpec)) catalogCalendarsUptoCard

/-- THE SECOND FORM's CARD OF 'ephemerislaw1.CatalogDates'. -/
def catalogDatesUptoCard : Claim7 := { stood := { row := catalogDatesUptoRow, standIns := [], harness := (true, "75819c65f35f9397504033462d89ff64999815f6743b99a06dc9fc334a8102cb"), looks := true }, kinds := [], alts := [], laidByText := true, laidKinds := [.data, .data, .data, .data, .sentinel, .sentinel, .data, .data, .pinned], laidTests := true, laidLooks := .later }
def CatalogDatesUptoCardSaid : Prop := Claim7.holds Tryz.pinned (.plain (OpenSpec.upto catalogDatesSpec)) catalogDatesUptoCard

/-- THE SECOND FORM's CARD OF 'ephemerislaw1.ReformDates'. -/
def reformDatesUptoCard : Claim7 := { stood := { row := reformDatesUptoRow, standIns := [], harness := (true, "75819c65f35f9397504033462d89ff64999815f6743b99a06dc9fc334a8102cb"), looks := true }, kinds := [], alts := [], laidByText := true, laidKinds := [.data, .data, .data, .data, .sentinel, .sentinel, .data, .data, .pinned], laidTests := true, laidLooks := .later }
def ReformDatesUptoCardSaid : Prop := Claim7.holds Tryz.pinned (.plain (OpenSpec.upto reformDatesSpec)) reformDatesUptoCard

/-- THE SECOND FORM's CARD OF 'ephemerislaw1.ReformLists'. -/
def reformListsUptoCard : Claim7 := { stood := { row := reformListsUptoRow, standIns := [], harness := (true, "75819c65f35f9397504033462d89ff64999815f6743b99a06dc9fc334a8102cb"), looks := true }, kinds := [], alts := [], laidByText := true, laidKinds := [.data, .data, .data, .data, .sentinel, .sentinel, .data, .data, .pinned], laidTests := true, laidLooks := .later }
def ReformListsUptoCardSaid : Prop := Claim7.holds Tryz.pinned (.plain (OpenSpec.upto reformListsSpec)) reformListsUptoCard

/-- THE SECOND FORM's CARD OF 'ephemerislaw1.ReformJumps'. -/
def reformJumpsUptoCard : Claim7 := { stood := { row := reformJumpsUptoRow, standIns := [], harness := (true, "75819c65f35f9397504033462d89ff64999815f6743b99a06dc9fc334a8102cb"), looks := true }, kinds := [], alts := [], laidByText := true, laidKinds := [.data, .data, .data, .data, .sentinel, .sentinel, .data, .data, .pinned], laidTests := true, laidLooks := .later }
def ReformJumpsUptoCardSaid : Prop := Claim7.holds Tryz.pinned (.plain (OpenSpec.upto reformJumpsSpec)) reformJumpsUptoCard

/-- THE SECOND FORM's CARD OF 'ephemerislaw1.EraSays'. -/
def eraSaysUptoCard : Claim7 := { stood := { row := eraSaysUptoRow, standIns := [], harness := (true, "75819c65f35f9397504033462d89ff64999815f6743b99a06dc9fc334a8102cb"), looks := true }, kinds := [], alts := [], laidByText := true, laidKinds := [.data, .data, .data, .data, .sentinel, .sentinel, .data, .data, .pinned], laidTests := true, laidLooks := .later }
def EraSaysUptoCardSaid : Prop := Claim7.holds Tryz.pinned (.plain (OpenSpec.upto eraSaysSpec)) eraSaysUptoCard

/-- THE SECOND FORM's CARD OF 'ephemerislaw1.EraFinds'. -/
def eraFindsUptoCard : Claim7 := { stood := { row := eraFindsUptoRow, standIns := [], harness := (true, "75819c65f35f9397504033462d89ff64999815f6743b99a06dc9fc334a8102cb"), looks := true }, kinds := [], alts := [], laidByText := true, laidKinds := [.data, .data, .data, .data, .sentinel, .sentinel, .data, .data, .pinned], laidTests := true, laidLooks := .later }
def EraFindsUptoCardSaid : Prop := Claim7.holds Tryz.pinned (.plain (OpenSpec.upto eraFindsSpec)) eraFindsUptoCard

/-- THE SECOND FORM's CARD OF 'ephemeristop.TopEras'. -/
def topErasUptoCard : Claim7 := { stood := { row := topErasUptoRow, standIns := [], harness := (true, "75819c65f35f9397504033462d89ff64999815f6743b99a06dc9fc334a8102cb"), looks := true }, kinds := [], alts := [], laidByText := true, laidKinds := [.data, .data, .data, .data, .sentinel, .sentinel, .data, .data, .pinned], laidTests := true, laidLooks := .later }
def TopErasUptoCardSaid : Prop := Claim7.holds Tryz.pinned (.plain (OpenSpec.upto topErasSpec)) topErasUptoCard
end Rows
end Go.Proofs.YtfbmlbenffkpfaaGreatDoor
