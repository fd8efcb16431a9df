/-
  DERIVED. GIVEN WITH THE SEED: THE CARDS: each row of YticflmepmmdnfabDoorRows.lean that lists a variable, with what it lists TIED to the program's text (the seventh form; the later family's looks); each row that meets fmt, with fmt's text TOLD by the authors' own Lean function (tested against real Go, not proved from fmt's source: count such statements apart). THE CARD IS WHAT COUNTS. Prove the row's statement (the work); the ties are given (YticflmepmmdnfabDoorTie.lean); close each card by the builder's one call (the guide's Derived/Test/ToyasCard.lean, 'card_holds'). Laid BY PROGRAM, IN A SANDBOX (cutbox-door.mjs). By AI agents, Wed Nov 11 2026. No macro, syntax, notation, axiom, sorry.
-/
import Derived.Test.YticflmepmmdnfabDoorRows
import GoSem.ClaimSeven
namespace Go.Proofs.YticflmepmmdnfabDoor
namespace Rows

/-- THE TIED CARD OF 'ephemerislaw1.NumeralPads'. -/
def numeralPadsCard : Claim7 := { stood := { row := numeralPadsRow, standIns := [], harness := (true, "f490683911fe9cecbd10266c2ee0589d6f2063afe621f0b4bf38d0404f25aa58"), looks := false }, kinds := [], alts := [], laidByText := true, laidKinds := [.data, .data, .data, .data, .data, .pinned], laidTests := true, laidLooks := .later }
def NumeralPadsCardSaid : Prop := Claim7.holds Tryd.pinned (.plain (OpenSpec.ofChange numeralPadsSpec)) numeralPadsCard

/-- THE TIED CARD OF 'ephemerislaw1.NumeralWrites'. -/
def numeralWritesCard : Claim7 := { stood := { row := numeralWritesRow, standIns := [], harness := (true, "f490683911fe9cecbd10266c2ee0589d6f2063afe621f0b4bf38d0404f25aa58"), looks := false }, kinds := [], alts := [], laidByText := true, laidKinds := [.data, .data, .data, .data, .data, .pinned], laidTests := true, laidLooks := .later }
def NumeralWritesCardSaid : Prop := Claim7.holds Tryd.pinned (.plain (OpenSpec.ofChange numeralWritesSpec)) numeralWritesCard

/-- THE TIED CARD OF 'ephemerislaw1.NumeralReads'. -/
def numeralReadsCard : Claim7 := { stood := { row := numeralReadsRow, standIns := [], harness := (true, "f490683911fe9cecbd10266c2ee0589d6f2063afe621f0b4bf38d0404f25aa58"), looks := false }, kinds := [], alts := [], laidByText := true, laidKinds := [.data, .data, .data, .data, .data, .pinned], laidTests := true, laidLooks := .later }
def NumeralReadsCardSaid : Prop := Claim7.holds Tryd.pinned (.plain (OpenSpec.ofChange numeralReadsSpec)) numeralReadsCard

/-- THE SECOND FORM's CARD OF 'ephemerislaw1.NumeralPads'. -/
def numeralPadsUptoCard : Claim7 := { stood := { row := numeralPadsUptoRow, standIns := [], harness := (true, "f490683911fe9cecbd10266c2ee0589d6f2063afe621f0b4bf38d0404f25aa58"), looks := false }, kinds := [], alts := [], laidByText := true, laidKinds := [.data, .data, .data, .data, .data, .pinned], laidTests := true, laidLooks := .later }
def NumeralPadsUptoCardSaid : Prop := Claim7.holds Tryd.pinned (.plain (OpenSpec.upto numeralPadsSpec)) numeralPadsUptoCard

/-- THE SECOND FORM's CARD OF 'ephemerislaw1.NumeralWrites'. -/
def numeralWritesUptoCard : Claim7 := { stood := { row := numeralWritesUptoRow, standIns := [], harness := (true, "f490683911fe9cecbd10266c2ee0589d6f2063afe621f0b4bf38d0404f25aa58"), looks := false }, kinds := [], alts := [], laidByText := true, laidKinds := [.data, .data, .data, .data, .data, .pinned], laidTests := true, laidLooks := .later }
def NumeralWritesUptoCardSaid : Prop := Claim7.holds Tryd.pinned (.plain (OpenSpec.upto numeralWritesSpec)) numeralWritesUptoCard

/-- THE SECOND FORM's CARD OF 'ephemerislaw1.NumeralReads'. -/
def numeralReadsUptoCard : Claim7 := { stood := { row := numeralReadsUptoRow, standIns := [], harness := (true, "f490683911fe9cecbd10266c2ee0589d6f2063afe621f0b4bf38d0404f25aa58"), looks := false }, kinds := [], alts := [], laidByText := true, laidKinds := [.data, .data, .data, .data, .data, .pinned], laidTests := true, laidLooks := .later }
def NumeralReadsUptoCardSaid : Prop := Claim7.holds Tryd.pinned (.plain (OpenSpec.upto numeralReadsSpec)) numeralReadsUptoCard
end Rows
end Go.Proofs.YticflmepmmdnfabDoor
