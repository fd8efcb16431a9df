/-
  DERIVED. GIVEN WITH THE SEED: THE CARDS: each row of YtlbjmpdonnlieaaGreatDoorRows.lean that lists a variable, with what it lists TIED to the program's text (the seventh form; the later family's looks); each row that meets fmt, with fmt's text TOLD by the authors' own Lean function (tested against real Go, not proved from fmt's source: count such statements apart). THE CARD IS WHAT COUNTS. Prove the row's statement (the work); the ties are given (YtlbjmpdonnlieaaGreatDoorTie.lean); close each card by the builder's one call (the guide's Derived/Test/ToyasCard.lean, 'card_holds'). Laid BY PROGRAM, IN A SANDBOX (cutbox-door.mjs). By AI agents, Wed Nov 11 2026. No macro, syntax, notation, axiom, sorry.
-/
import Derived.Test.YtlbjmpdonnlieaaGreatDoorRows
import GoSem.ClaimSeven
namespace Go.Proofs.YtlbjmpdonnlieaaGreatDoor
namespace Rows

/-- THE TIED CARD OF 'ephemerislaw1.FeastChecks'. -/
def feastChecksCard : Claim7 := { stood := { row := feastChecksRow, standIns := [], harness := (true, "8f5fef33e73ddd271e73ce19348787bab66c0632f1793d642c2cf0e1c842326f"), looks := true }, kinds := [], alts := [], laidByText := true, laidKinds := [.data, .data, .data, .data, .sentinel, .sentinel, .data, .data, .pinned], laidTests := true, laidLooks := .later }
def FeastChecksCardSaid : Prop := Claim7.holds Tryz.pinned (.plain (OpenSpec.ofChange feastChecksSpec)) feastChecksCard

/-- THE TIED CARD OF 'ephemerislaw1.PeriodPeriods'. -/
def periodPeriodsCard : Claim7 := { stood := { row := periodPeriodsRow, standIns := [], harness := (true, "8f5fef33e73ddd271e73ce19348787bab66c0632f1793d642c2cf0e1c842326f"), looks := true }, kinds := [], alts := [], laidByText := true, laidKinds := [.data, .data, .data, .data, .sentinel, .sentinel, .data, .data, .pinned], laidTests := true, laidLooks := .later }
def PeriodPeriodsCardSaid : Prop := Claim7.holds Tryz.pinned (.plain (OpenSpec.ofChange periodPeriodsSpec)) periodPeriodsCard

/-- THE TIED CARD OF 'ephemerislaw1.SpanAdds'. -/
def spanAddsCard : Claim7 := { stood := { row := spanAddsRow, standIns := [], harness := (true, "8f5fef33e73ddd271e73ce19348787bab66c0632f1793d642c2cf0e1c842326f"), looks := true }, kinds := [], alts := [], laidByText := true, laidKinds := [.data, .data, .data, .data, .sentinel, .sentinel, .data, .data, .pinned], laidTests := true, laidLooks := .later }
def SpanAddsCardSaid : Prop := Claim7.holds Tryz.pinned (.plain (OpenSpec.ofChange spanAddsSpec)) spanAddsCard

/-- THE TIED CARD OF 'ephemerislaw1.SpanBetweens'. -/
def spanBetweensCard : Claim7 := { stood := { row := spanBetweensRow, standIns := [], harness := (true, "8f5fef33e73ddd271e73ce19348787bab66c0632f1793d642c2cf0e1c842326f"), looks := true }, kinds := [], alts := [], laidByText := true, laidKinds := [.data, .data, .data, .data, .sentinel, .sentinel, .data, .data, .pinned], laidTests := true, laidLooks := .later }
def SpanBetweensCardSaid : Prop := Claim7.holds Tryz.pinned (.plain (OpenSpec.ofChange spanBetweensSpec)) spanBetweensCard

/-- THE TIED CARD OF 'ephemerislaw1.FeastPrints'. -/
def feastPrintsCard : Claim7 := { stood := { row := feastPrintsRow, standIns := [], harness := (true, "8f5fef33e73ddd271e73ce19348787bab66c0632f1793d642c2cf0e1c842326f"), looks := true }, kinds := [], alts := [], laidByText := true, laidKinds := [.data, .data, .data, .data, .sentinel, .sentinel, .data, .data, .pinned], laidTests := true, laidLooks := .later }
def FeastPrintsCardSaid : Prop := Claim7.holds Tryz.pinned (.plain (OpenSpec.ofChange feastPrintsSpec)) feastPrintsCard

/-- THE TIED CARD OF 'ephemerislaw1.SolveHas'. -/
def solveHasCard : Claim7 := { stood := { row := solveHasRow, standIns := [], harness := (true, "8f5fef33e73ddd271e73ce19348787bab66c0632f1793d642c2cf0e1c842326f"), looks := true }, kinds := [], alts := [], laidByText := true, laidKinds := [.data, .data, .data, .data, .sentinel, .sentinel, .data, .data, .pinned], laidTests := true, laidLooks := .later }
def SolveHasCardSaid : Prop := Claim7.holds Tryz.pinned (.plain (OpenSpec.ofChange solveHasSpec)) solveHasCard

/-- THE SECOND FORM's CARD OF 'ephemerislaw1.FeastChecks'. -/
def feastChecksUptoCard : Claim7 := { stood := { row := feastChecksUptoRow, standIns := [], harness := (true, "8f5fef33e73ddd271e73ce19348787bab66c0632f1793d642c2cf0e1c842326f"), looks := true }, kinds := [], alts := [], laidByText := true, laidKinds := [.data, .data, .data, .data, .sentinel, .sentinel, .data, .data, .pinned], laidTests := true, laidLooks := .later }
def FeastChecksUptoCardSaid : Prop := Claim7.holds Tryz.pinned (.plain (OpenSpec.upto feastChecksSpec)) feastChecksUptoCard

/-- THE SECOND FORM's CARD OF 'ephemerislaw1.PeriodPeriods'. -/
def periodPeriodsUptoCard : Claim7 := { stood := { row := periodPeriodsUptoRow, standIns := [], harness := (true, "8f5fef33e73ddd271e73ce19348787bab66c0632f1793d642c2cf0e1c842326f"), looks := true }, kinds := [], alts := [], laidByText := true, laidKinds := [.data, .data, .data, .data, .sentinel, .sentinel, .data, .data, .pinned], laidTests := true, laidLooks := .later }
def PeriodPeriodsUptoCardSaid : Prop := Claim7.holds Tryz.pinned (.plain (OpenSpec.upto periodPeriodsSpec)) periodPeriodsUptoCard

/-- THE SECOND FORM's CARD OF 'ephemerislaw1.SpanAdds'. -/
def spanAddsUptoCard : Claim7 := { stood := { row := spanAddsUptoRow, standIns := [], harness := (true, "8f5fef33e73ddd271e73ce19348787bab66c0632f1793d642c2cf0e1c842326f"), looks := true }, kinds := [], alts := [], laidByText := true, laidKinds := [.data, .data, .data, .data, .sentinel, .sentinel, .data, .data, .pinned], laidTests := true, laidLooks := .later }
def SpanAddsUptoCardSaid : Prop := Claim7.holds Tryz.pinned (.plain (OpenSpec.upto spanAddsSpec)) spanAddsUptoCard

/-- THE SECOND FORM's CARD OF 'ephemerislaw1.SpanBetweens'. -/
def spanBetweensUptoCard : Claim7 := { stood := { row := spanBetweensUptoRow, standIns := [], harness := (true, "8f5fef33e73ddd271e73ce19348787bab66c0632f1793d642c2cf0e1c842326f"), looks := true }, kinds := [], alts := [], laidByText := true, laidKinds := [.data, .data, .data, .data, .sentinel, .sentinel, .data, .data, .pinned], laidTests := true, laidLooks := .later }
def SpanBetweensUptoCardSaid : Prop := Claim7.holds Tryz.pinned (.plain (OpenSpec.upto spanBetweensSpec)) spanBetweensUptoCard

/-- THE SECOND FORM's CARD OF 'ephemerislaw1.FeastPrints'. -/
def feastPrintsUptoCard : Claim7 := { stood := { row := feastPrintsUptoRow, standIns := [], harness := (true, "8f5fef33e73ddd271e73ce19348787bab66c0632f1793d642c2cf0e1c842326f"), looks := true }, kinds := [], alts := [], laidByText := true, laidKinds := [.data, .data, .data, .data, .sentinel, .sentinel, .data, .data, .pinned], laidTests := true, laidLooks := .later }
def FeastPrintsUptoCardSaid : Prop := Claim7.holds Tryz.pinned (.plain (OpenSpec.upto feastPrintsSpec)) feastPrintsUptoCard

/-- THE SECOND FORM's CARD OF 'ephemerislaw1.SolveHas'. -/
def solveHasUptoCard : Claim7 := { stood := { row := solveHasUptoRow, standIns := [], harness := (true, "8f5fef33e73ddd271e73ce19348787bab66c0632f1793d642c2cf0e1c842326f"), looks := true }, kinds := [], alts := [], laidByText := true, laidKinds := [.data, .data, .data, .data, .sentinel, .sentinel, .data, .data, .pinned], laidTests := true, laidLooks := .later }
def SolveHasUptoCardSaid : Prop := Claim7.holds Tryz.pinned (.plain (OpenSpec.upto solveHasSpec)) solveHasUptoCard
end Rows
end Go.Proofs.YtlbjmpdonnlieaaGreatDoor
