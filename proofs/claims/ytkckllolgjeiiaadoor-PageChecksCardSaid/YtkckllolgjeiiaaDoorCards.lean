/-
  DERIVED. GIVEN WITH THE SEED: THE CARDS: each row of YtkckllolgjeiiaaDoorRows.lean that lists a variable, with what it lists TIED to the program's text (the seventh form; the later family's looks); each row that meets fmt, with fmt's text TOLD by the authors' own Lean function (tested against real Go, not proved from fmt's source: count such statements apart). THE CARD IS WHAT COUNTS. Prove the row's statement (the work); the ties are given (YtkckllolgjeiiaaDoorTie.lean); close each card by the builder's one call (the guide's Derived/Test/ToyasCard.lean, 'card_holds'). Laid BY PROGRAM, IN A SANDBOX (cutbox-door.mjs). By AI agents, Wed Nov 11 2026. No macro, syntax, notation, axiom, sorry.
-/
import Derived.Test.YtkckllolgjeiiaaDoorRows
import GoSem.ClaimSeven
namespace Go.Proofs.YtkckllolgjeiiaaDoor
namespace Rows

/-- THE TIED CARD OF 'ephemerislaw1.PageChecks'. -/
def pageChecksCard : Claim7 := { stood := { row := pageChecksRow, standIns := [], harness := (true, "3d3dcac045a89fbde59dc198fcd88d46454efb5c25c6216c45e251221d411d32"), looks := false }, kinds := [], alts := [], laidByText := true, laidKinds := [.data, .pinned], laidTests := true, laidLooks := .later }
def PageChecksCardSaid : Prop := Claim7.holds Tryd.pinned (.plain (OpenSpec.ofChange pageChecksSpec)) pageChecksCard

/-- THE TIED CARD OF 'ephemerislaw1.NumeralPads'. -/
def numeralPadsCard : Claim7 := { stood := { row := numeralPadsRow, standIns := [], harness := (true, "3d3dcac045a89fbde59dc198fcd88d46454efb5c25c6216c45e251221d411d32"), looks := false }, kinds := [], alts := [], laidByText := true, laidKinds := [.data, .data, .data, .data, .data, .pinned], laidTests := true, laidLooks := .later }
def NumeralPadsCardSaid : Prop := Claim7.holds Tryd.pinned (.plain (OpenSpec.ofChange numeralPadsSpec)) numeralPadsCard

/-- THE TIED CARD OF 'ephemerislaw1.NumeralWrites'. -/
def numeralWritesCard : Claim7 := { stood := { row := numeralWritesRow, standIns := [], harness := (true, "3d3dcac045a89fbde59dc198fcd88d46454efb5c25c6216c45e251221d411d32"), looks := false }, kinds := [], alts := [], laidByText := true, laidKinds := [.data, .data, .data, .data, .data, .pinned], laidTests := true, laidLooks := .later }
def NumeralWritesCardSaid : Prop := Claim7.holds Tryd.pinned (.plain (OpenSpec.ofChange numeralWritesSpec)) numeralWritesCard

/-- THE SECOND FORM's CARD OF 'ephemerislaw1.PageChecks'. -/
def pageChecksUptoCard : Claim7 := { stood := { row := pageChecksUptoRow, standIns := [], harness := (true, "3d3dcac045a89fbde59dc198fcd88d46454efb5c25c6216c45e251221d411d32"), looks := false }, kinds := [], alts := [], laidByText := true, laidKinds := [.data, .pinned], laidTests := true, laidLooks := .later }
def PageChecksUptoCardSaid : Prop := Claim7.holds Tryd.pinned (.plain (OpenSpec.upto pageChecksSpec)) pageChecksUptoCard

/-- THE SECOND FORM's CARD OF 'ephemerislaw1.NumeralPads'. -/
def numeralPadsUptoCard : Claim7 := { stood := { row := numeralPadsUptoRow, standIns := [], harness := (true, "3d3dcac045a89fbde59dc198fcd88d46454efb5c25c6216c45e251221d411d32"), looks := false }, kinds := [], alts := [], laidByText := true, laidKinds := [.data, .data, .data, .data, .data, .pinned], laidTests := true, laidLooks := .later }
def NumeralPadsUptoCardSaid : Prop := Claim7.holds Tryd.pinned (.plain (OpenSpec.upto numeralPadsSpec)) numeralPadsUptoCard

/-- THE SECOND FORM's CARD OF 'ephemerislaw1.NumeralWrites'. -/
def numeralWritesUptoCard : Claim7 := { stood := { row := numeralWritesUptoRow, standIns := [], harness := (true, "3d3dcac045a89fbde59dc198fcd88d46454efb5c25c6216c45e251221d411d32"), looks := false }, kinds := [], alts := [], laidByText := true, laidKinds := [.data, .data, .data, .data, .data, .pinned], laidTests := true, laidLooks := .later }
def NumeralWritesUptoCardSaid : Prop := Claim7.holds Tryd.pinned (.plain (OpenSpec.upto numeralWritesSpec)) numeralWritesUptoCard
end Rows
end Go.Proofs.YtkckllolgjeiiaaDoor
