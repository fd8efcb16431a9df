/-
  DERIVED. GIVEN WITH THE SEED: THE CARDS: each row of YtlpbaljoanfogaaGreatDoorRows.lean that lists a variable, with what it lists TIED to the program's text (the seventh form; the later family's looks); each row that meets fmt, with fmt's text TOLD by the authors' own Lean function (tested against real Go, not proved from fmt's source: count such statements apart). THE CARD IS WHAT COUNTS. Prove the row's statement (the work); the ties are given (YtlpbaljoanfogaaGreatDoorTie.lean); close each card by the builder's one call (the guide's Derived/Test/ToyasCard.lean, 'card_holds'). Laid BY PROGRAM, IN A SANDBOX (cutbox-door.mjs). By AI agents, Wed Nov 11 2026. No macro, syntax, notation, axiom, sorry.
-/
import Derived.Test.YtlpbaljoanfogaaGreatDoorRows
import GoSem.ClaimSeven
namespace Go.Proofs.YtlpbaljoanfogaaGreatDoor
namespace Rows

/-- THE TIED CARD OF 'ephemerislaw1.ReformDates'. -/
def reformDatesCard : Claim7 := { stood := { row := reformDatesRow, standIns := [], harness := (true, "78f208e1677b7e4db0cd9b215e488b08c72e75a5066172644028f5ed062c26ef"), looks := true }, kinds := [], alts := [], laidByText := true, laidKinds := [.data, .data, .data, .data, .sentinel, .sentinel, .data, .data, .pinned], laidTests := true, laidLooks := .later }
def ReformDatesCardSaid : Prop := Claim7.holds Tryz.pinned (.plain (OpenSpec.ofChange reformDatesSpec)) reformDatesCard

/-- THE TIED CARD OF 'ephemerislaw1.ReformLists'. -/
def reformListsCard : Claim7 := { stood := { row := reformListsRow, standIns := [], harness := (true, "78f208e1677b7e4db0cd9b215e488b08c72e75a5066172644028f5ed062c26ef"), looks := true }, kinds := [], alts := [], laidByText := true, laidKinds := [.data, .data, .data, .data, .sentinel, .sentinel, .data, .data, .pinned], laidTests := true, laidLooks := .later }
def ReformListsCardSaid : Prop := Claim7.holds Tryz.pinned (.plain (OpenSpec.ofChange reformListsSpec)) reformListsCard

/-- THE TIED CARD OF 'ephemerislaw1.ReformJumps'. -/
def reformJumpsCard : Claim7 := { stood := { row := reformJumpsRow, standIns := [], harness := (true, "78f208e1677b7e4db0cd9b215e488b08c72e75a5066172644028f5ed062c26ef"), looks := true }, kinds := [], alts := [], laidByText := true, laidKinds := [.data, .data, .data, .data, .sentinel, .sentinel, .data, .data, .pinned], laidTests := true, laidLooks := .later }
def ReformJumpsCardSaid : Prop := Claim7.holds Tryz.pinned (.plain (OpenSpec.ofChange reformJumpsSpec)) reformJumpsCard

/-- THE TIED CARD OF 'ephemerislaw1.EraSays'. -/
def eraSaysCard : Claim7 := { stood := { row := eraSaysRow, standIns := [], harness := (true, "78f208e1677b7e4db0cd9b215e488b08c72e75a5066172644028f5ed062c26ef"), looks := true }, kinds := [], alts := [], laidByText := true, laidKinds := [.data, .data, .data, .data, .sentinel, .sentinel, .data, .data, .pinned], laidTests := true, laidLooks := .later }
def EraSaysCardSaid : Prop := Claim7.holds Tryz.pinned (.plain (OpenSpec.ofChange eraSaysSpec)) eraSaysCard

/-- THE TIED CARD OF 'ephemerislaw1.EraFinds'. -/
def eraFindsCard : Claim7 := { stood := { row := eraFindsRow, standIns := [], harness := (true, "78f208e1677b7e4db0cd9b215e488b08c72e75a5066172644028f5ed062c26ef"), looks := true }, kinds := [], alts := [], laidByText := true, laidKinds := [.data, .data, .data, .data, .sentinel, .sentinel, .data, .data, .pinned], laidTests := true, laidLooks := .later }
def EraFindsCardSaid : Prop := Claim7.holds Tryz.pinned (.plain (OpenSpec.ofChange eraFindsSpec)) eraFindsCard

/-- THE TIED CARD OF 'ephemeristop.TopEras'. -/
def topErasCard : Claim7 := { stood := { row := topErasRow, standIns := [], harness := (true, "78f208e1677b7e4db0cd9b215e488b08c72e75a5066172644028f5ed062c26ef"), looks := true }, kinds := [], alts := [], laidByText := true, laidKinds := [.data, .data, .data, .data, .sentinel, .sentinel, .data, .data, .pinned], laidTests := true, laidLooks := .later }
def TopErasCardSaid : Prop := Claim7.holds Tryz.pinned (.plain (OpenSpec.ofChange topErasSpec)) topErasCard

/-- THE SECOND FORM's CARD OF 'ephemerislaw1.ReformDates'. -/
def reformDatesUptoCard : Claim7 := { stood := { row := reformDatesUptoRow, standIns := [], harness := (true, "78f208e1677b7e4db0cd9b215e488b08c72e75a5066172644028f5ed062c26ef"), looks := true }, kinds := [], alts := [], laidByText := true, laidKinds := [.data, .data, .data, .data, .sentinel, .sentinel, .data, .data, .pinned], laidTests := true, laidLooks := .later }
def ReformDatesUptoCardSaid : Prop := Claim7.holds Tryz.pinned (.plain (OpenSpec.upto reformDatesSpec)) reformDatesUptoCard

/-- THE SECOND FORM's CARD OF 'ephemerislaw1.ReformLists'. -/
def reformListsUptoCard : Claim7 := { stood := { row := reformListsUptoRow, standIns := [], harness := (true, "78f208e1677b7e4db0cd9b215e488b08c72e75a5066172644028f5ed062c26ef"), looks := true }, kinds := [], alts := [], laidByText := true, laidKinds := [.data, .data, .data, .data, .sentinel, .sentinel, .data, .data, .pinned], laidTests := true, laidLooks := .later }
def ReformListsUptoCardSaid : Prop := Claim7.holds Tryz.pinned (.plain (OpenSpec.upto reformListsSpec)) reformListsUptoCard

/-- THE SECOND FORM's CARD OF 'ephemerislaw1.ReformJumps'. -/
def reformJumpsUptoCard : Claim7 := { stood := { row := reformJumpsUptoRow, standIns := [], harness := (true, "78f208e1677b7e4db0cd9b215e488b08c72e75a5066172644028f5ed062c26ef"), looks := true }, kinds := [], alts := [], laidByText := true, laidKinds := [.data, .data, .data, .data, .sentinel, .sentinel, .data, .data, .pinned], laidTests := true, laidLooks := .later }
def ReformJumpsUptoCardSaid : Prop := Claim7.holds Tryz.pinned (.plain (OpenSpec.upto reformJumpsSpec)) reformJumpsUptoCard

/-- THE SECOND FORM's CARD OF 'ephemerislaw1.EraSays'. -/
def eraSaysUptoCard : Claim7 := { stood := { row := eraSaysUptoRow, standIns := [], harness := (true, "78f208e1677b7e4db0cd9b215e488b08c72e75a5066172644028f5ed062c26ef"), looks := true }, kinds := [], alts := [], laidByText := true, laidKinds := [.data, .data, .data, .data, .sentinel, .sentinel, .data, .data, .pinned], laidTests := true, laidLooks := .later }
def EraSaysUptoCardSaid : Prop := Claim7.holds Tryz.pinned (.plain (OpenSpec.upto eraSaysSpec)) eraSaysUptoCard

/-- THE SECOND FORM's CARD OF 'ephemerislaw1.EraFinds'. -/
def eraFindsUptoCard : Claim7 := { stood := { row := eraFindsUptoRow, standIns := [], harness := (true, "78f208e1677b7e4db0cd9b215e488b08c72e75a5066172644028f5ed062c26ef"), looks := true }, kinds := [], alts := [], laidByText := true, laidKinds := [.data, .data, .data, .data, .sentinel, .sentinel, .data, .data, .pinned], laidTests := true, laidLooks := .later }
def EraFindsUptoCardSaid : Prop := Claim7.holds Tryz.pinned (.plain (OpenSpec.upto eraFindsSpec)) eraFindsUptoCard

/-- THE SECOND FORM's CARD OF 'ephemeristop.TopEras'. -/
def topErasUptoCard : Claim7 := { stood := { row := topErasUptoRow, standIns := [], harness := (true, "78f208e1677b7e4db0cd9b215e488b08c72e75a5066172644028f5ed062c26ef"), looks := true }, kinds := [], alts := [], laidByText := true, laidKinds := [.data, .data, .data, .data, .sentinel, .sentinel, .data, .data, .pinned], laidTests := true, laidLooks := .later }
def TopErasUptoCardSaid : Prop := Claim7.holds Tryz.pinned (.plain (OpenSpec.upto topErasSpec)) topErasUptoCard
end Rows
end Go.Proofs.YtlpbaljoanfogaaGreatDoor
