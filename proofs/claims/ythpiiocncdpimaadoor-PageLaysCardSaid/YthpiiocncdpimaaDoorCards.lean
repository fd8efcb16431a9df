/-
  DERIVED. GIVEN WITH THE SEED: THE CARDS: each row of YthpiiocncdpimaaDoorRows.lean that lists a variable, with what it lists TIED to the program's text (the seventh form; the later family's looks); each row that meets fmt, with fmt's text TOLD by the authors' own Lean function (tested against real Go, not proved from fmt's source: count such statements apart). THE CARD IS WHAT COUNTS. Prove the row's statement (the work); the ties are given (YthpiiocncdpimaaDoorTie.lean); close each card by the builder's one call (the guide's Derived/Test/ToyasCard.lean, 'card_holds'). Laid BY PROGRAM, IN A SANDBOX (cutbox-door.mjs). By AI agents, Wed Nov 11 2026. No macro, syntax, notation, axiom, sorry.
-/
import Derived.Test.YthpiiocncdpimaaDoorRows
import GoSem.ClaimSeven
namespace Go.Proofs.YthpiiocncdpimaaDoor
namespace Rows

/-- THE TIED CARD OF 'ephemerislaw1.PageLays'. -/
def pageLaysCard : Claim7 := { stood := { row := pageLaysRow, standIns := [], harness := (true, "54d1e4b86d35719d59ea64df27a3abdf64ee3166350d7821e63bf43a29272292"), looks := false }, kinds := [], alts := [], laidByText := true, laidKinds := [.data, .data, .data, .data, .pinned], laidTests := true, laidLooks := .later }
def PageLaysCardSaid : Prop := Claim7.holds Tryd.pinned (.plain (OpenSpec.ofChange pageLaysSpec)) pageLaysCard

/-- THE TIED CARD OF 'ephemerislaw1.PageReads'. -/
def pageReadsCard : Claim7 := { stood := { row := pageReadsRow, standIns := [], harness := (true, "54d1e4b86d35719d59ea64df27a3abdf64ee3166350d7821e63bf43a29272292"), looks := false }, kinds := [], alts := [], laidByText := true, laidKinds := [.data, .data, .data, .data, .pinned], laidTests := true, laidLooks := .later }
def PageReadsCardSaid : Prop := Claim7.holds Tryd.pinned (.plain (OpenSpec.ofChange pageReadsSpec)) pageReadsCard

/-- THE TIED CARD OF 'ephemerislaw1.AlmanacTables'. -/
def almanacTablesCard : Claim7 := { stood := { row := almanacTablesRow, standIns := [], harness := (true, "54d1e4b86d35719d59ea64df27a3abdf64ee3166350d7821e63bf43a29272292"), looks := false }, kinds := [], alts := [], laidByText := true, laidKinds := [.data, .data, .data, .data, .pinned], laidTests := true, laidLooks := .later }
def AlmanacTablesCardSaid : Prop := Claim7.holds Tryd.pinned (.plain (OpenSpec.ofChange almanacTablesSpec)) almanacTablesCard

/-- THE SECOND FORM's CARD OF 'ephemerislaw1.PageLays'. -/
def pageLaysUptoCard : Claim7 := { stood := { row := pageLaysUptoRow, standIns := [], harness := (true, "54d1e4b86d35719d59ea64df27a3abdf64ee3166350d7821e63bf43a29272292"), looks := false }, kinds := [], alts := [], laidByText := true, laidKinds := [.data, .data, .data, .data, .pinned], laidTests := true, laidLooks := .later }
def PageLaysUptoCardSaid : Prop := Claim7.holds Tryd.pinned (.plain (OpenSpec.upto pageLaysSpec)) pageLaysUptoCard

/-- THE SECOND FORM's CARD OF 'ephemerislaw1.PageReads'. -/
def pageReadsUptoCard : Claim7 := { stood := { row := pageReadsUptoRow, standIns := [], harness := (true, "54d1e4b86d35719d59ea64df27a3abdf64ee3166350d7821e63bf43a29272292"), looks := false }, kinds := [], alts := [], laidByText := true, laidKinds := [.data, .data, .data, .data, .pinned], laidTests := true, laidLooks := .later }
def PageReadsUptoCardSaid : Prop := Claim7.holds Tryd.pinned (.plain (OpenSpec.upto pageReadsSpec)) pageReadsUptoCard

/-- THE SECOND FORM's CARD OF 'ephemerislaw1.AlmanacTables'. -/
def almanacTablesUptoCard : Claim7 := { stood := { row := almanacTablesUptoRow, standIns := [], harness := (true, "54d1e4b86d35719d59ea64df27a3abdf64ee3166350d7821e63bf43a29272292"), looks := false }, kinds := [], alts := [], laidByText := true, laidKinds := [.data, .data, .data, .data, .pinned], laidTests := true, laidLooks := .later }
def AlmanacTablesUptoCardSaid : Prop := Claim7.holds Tryd.pinned (.plain (OpenSpec.upto almanacTablesSpec)) almanacTablesUptoCard
end Rows
end Go.Proofs.YthpiiocncdpimaaDoor
