/-
  DERIVED. GIVEN WITH THE SEED: THE CARDS: each row of YtfbmlbenffkpfaaDoorRows.lean that lists a variable, with what it lists TIED to the program's text (the seventh form; the later family's looks); each row that meets fmt, with fmt's text TOLD by the authors' own Lean function (tested against real Go, not proved from fmt's source: count such statements apart). THE CARD IS WHAT COUNTS. Prove the row's statement (the work); the ties are given (YtfbmlbenffkpfaaDoorTie.lean); close each card by the builder's one call (the guide's Derived/Test/ToyasCard.lean, 'card_holds'). Laid BY PROGRAM, IN A SANDBOX (cutbox-door.mjs). By AI agents, Wed Nov 11 2026. No macro, syntax, notation, axiom, sorry.
-/
import Derived.Test.YtfbmlbenffkpfaaDoorRows
import GoSem.ClaimSeven
namespace Go.Proofs.YtfbmlbenffkpfaaDoor
namespace Rows

/-- THE TIED CARD OF 'ephemerislaw1.ReformChecks'. -/
def reformChecksCard : Claim7 := { stood := { row := reformChecksRow, standIns := [], harness := (true, "2b0e94b05726a6c23793faeb2f7ad8bce5388324b416f129f91a45aa193d1027"), looks := false }, kinds := [], alts := [], laidByText := true, laidKinds := [.data, .pinned], laidTests := true, laidLooks := .later }
def ReformChecksCardSaid : Prop := Claim7.holds Tryd.pinned (.plain (OpenSpec.ofChange reformChecksSpec)) reformChecksCard

/-- THE SECOND FORM's CARD OF 'ephemerislaw1.ReformChecks'. -/
def reformChecksUptoCard : Claim7 := { stood := { row := reformChecksUptoRow, standIns := [], harness := (true, "2b0e94b05726a6c23793faeb2f7ad8bce5388324b416f129f91a45aa193d1027"), looks := false }, kinds := [], alts := [], laidByText := true, laidKinds := [.data, .pinned], laidTests := true, laidLooks := .later }
def ReformChecksUptoCardSaid : Prop := Claim7.holds Tryd.pinned (.plain (OpenSpec.upto reformChecksSpec)) reformChecksUptoCard
end Rows
end Go.Proofs.YtfbmlbenffkpfaaDoor
