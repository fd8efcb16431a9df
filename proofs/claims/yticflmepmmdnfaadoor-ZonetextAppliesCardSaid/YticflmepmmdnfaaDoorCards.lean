/-
  DERIVED. GIVEN WITH THE SEED: THE CARDS: each row of YticflmepmmdnfaaDoorRows.lean that lists a variable, with what it lists TIED to the program's text (the seventh form; the later family's looks); each row that meets fmt, with fmt's text TOLD by the authors' own Lean function (tested against real Go, not proved from fmt's source: count such statements apart). THE CARD IS WHAT COUNTS. Prove the row's statement (the work); the ties are given (YticflmepmmdnfaaDoorTie.lean); close each card by the builder's one call (the guide's Derived/Test/ToyasCard.lean, 'card_holds'). Laid BY PROGRAM, IN A SANDBOX (cutbox-door.mjs). By AI agents, Wed Nov 11 2026. No macro, syntax, notation, axiom, sorry.
-/
import Derived.Test.YticflmepmmdnfaaDoorRows
import GoSem.ClaimSeven
namespace Go.Proofs.YticflmepmmdnfaaDoor
namespace Rows

/-- THE TIED CARD OF 'ephemerislaw1.ZonetextDiffs'. -/
def zonetextDiffsCard : Claim7 := { stood := { row := zonetextDiffsRow, standIns := [], harness := (true, "9cb206fb792ea007893459acd1ad8885c1da29242e8de70289b93e56262216ab"), looks := false }, kinds := [], alts := [], laidByText := true, laidKinds := [.data, .pinned], laidTests := true, laidLooks := .later }
def ZonetextDiffsCardSaid : Prop := Claim7.holds Tryd.pinned (.plain (OpenSpec.ofChange zonetextDiffsSpec)) zonetextDiffsCard

/-- THE TIED CARD OF 'ephemerislaw1.ZonetextApplies'. -/
def zonetextAppliesCard : Claim7 := { stood := { row := zonetextAppliesRow, standIns := [], harness := (true, "9cb206fb792ea007893459acd1ad8885c1da29242e8de70289b93e56262216ab"), looks := false }, kinds := [], alts := [], laidByText := true, laidKinds := [.data, .pinned], laidTests := true, laidLooks := .later }
def ZonetextAppliesCardSaid : Prop := Claim7.holds Tryd.pinned (.plain (OpenSpec.ofChange zonetextAppliesSpec)) zonetextAppliesCard

/-- THE TIED CARD OF 'ephemerislaw1.BureauTexts'. -/
def bureauTextsCard : Claim7 := { stood := { row := bureauTextsRow, standIns := [], harness := (true, "9cb206fb792ea007893459acd1ad8885c1da29242e8de70289b93e56262216ab"), looks := false }, kinds := [], alts := [], laidByText := true, laidKinds := [.data, .data, .data, .data, .pinned], laidTests := true, laidLooks := .later }
def BureauTextsCardSaid : Prop := Claim7.holds Tryd.pinned (.plain (OpenSpec.ofChange bureauTextsSpec)) bureauTextsCard

/-- THE SECOND FORM's CARD OF 'ephemerislaw1.ZonetextDiffs'. -/
def zonetextDiffsUptoCard : Claim7 := { stood := { row := zonetextDiffsUptoRow, standIns := [], harness := (true, "9cb206fb792ea007893459acd1ad8885c1da29242e8de70289b93e56262216ab"), looks := false }, kinds := [], alts := [], laidByText := true, laidKinds := [.data, .pinned], laidTests := true, laidLooks := .later }
def ZonetextDiffsUptoCardSaid : Prop := Claim7.holds Tryd.pinned (.plain (OpenSpec.upto zonetextDiffsSpec)) zonetextDiffsUptoCard

/-- THE SECOND FORM's CARD OF 'ephemerislaw1.ZonetextApplies'. -/
def zonetextAppliesUptoCard : Claim7 := { stood := { row := zonetextAppliesUptoRow, standIns := [], harness := (true, "9cb206fb792ea007893459acd1ad8885c1da29242e8de70289b93e56262216ab"), looks := false }, kinds := [], alts := [], laidByText := true, laidKinds := [.data, .pinned], laidTests := true, laidLooks := .later }
def ZonetextAppliesUptoCardSaid : Prop := Claim7.holds Tryd.pinned (.plain (OpenSpec.upto zonetextAppliesSpec)) zonetextAppliesUptoCard

/-- THE SECOND FORM's CARD OF 'ephemerislaw1.BureauTexts'. -/
def bureauTextsUptoCard : Claim7 := { stood := { row := bureauTextsUptoRow, standIns := [], harness := (true, "9cb206fb792ea007893459acd1ad8885c1da29242e8de70289b93e56262216ab"), looks := false }, kinds := [], alts := [], laidByText := true, laidKinds := [.data, .data, .data, .data, .pinned], laidTests := true, laidLooks := .later }
def BureauTextsUptoCardSaid : Prop := Claim7.holds Tryd.pinned (.plain (OpenSpec.upto bureauTextsSpec)) bureauTextsUptoCard
end Rows
end Go.Proofs.YticflmepmmdnfaaDoor
