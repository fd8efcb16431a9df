/-
  DERIVED. GIVEN WITH THE SEED: THE CARDS: each row of YtjpbkkoflaajcabDoorRows.lean that lists a variable, with what it lists TIED to the program's text (the seventh form; the later family's looks); each row that meets fmt, with fmt's text TOLD by the authors' own Lean function (tested against real Go, not proved from fmt's source: count such statements apart). THE CARD IS WHAT COUNTS. Prove the row's statement (the work); the ties are given (YtjpbkkoflaajcabDoorTie.lean); close each card by the builder's one call (the guide's Derived/Test/ToyasCard.lean, 'card_holds'). Laid BY PROGRAM, IN A SANDBOX (cutbox-door.mjs). By AI agents, Wed Nov 11 2026. No macro, syntax, notation, axiom, sorry.
-/
import Derived.Test.YtjpbkkoflaajcabDoorRows
import GoSem.ClaimSeven
namespace Go.Proofs.YtjpbkkoflaajcabDoor
namespace Rows

/-- THE TIED CARD OF 'ephemerislaw1.ZoneInstants'. -/
def zoneInstantsCard : Claim7 := { stood := { row := zoneInstantsRow, standIns := [], harness := (true, "0590ed8924abef323304f1a0b95e96203e37ebe76e434f97318103edcb4bf9f9"), looks := false }, kinds := [], alts := [], laidByText := true, laidKinds := [.data, .pinned], laidTests := true, laidLooks := .later }
def ZoneInstantsCardSaid : Prop := Claim7.holds Tryd.pinned (.plain (OpenSpec.ofChange zoneInstantsSpec)) zoneInstantsCard

/-- THE TIED CARD OF 'ephemerislaw1.ForecastYears'. -/
def forecastYearsCard : Claim7 := { stood := { row := forecastYearsRow, standIns := [], harness := (true, "0590ed8924abef323304f1a0b95e96203e37ebe76e434f97318103edcb4bf9f9"), looks := false }, kinds := [], alts := [], laidByText := true, laidKinds := [.data, .pinned], laidTests := true, laidLooks := .later }
def ForecastYearsCardSaid : Prop := Claim7.holds Tryd.pinned (.plain (OpenSpec.ofChange forecastYearsSpec)) forecastYearsCard

/-- THE TIED CARD OF 'ephemerislaw1.ForecastExtends'. -/
def forecastExtendsCard : Claim7 := { stood := { row := forecastExtendsRow, standIns := [], harness := (true, "0590ed8924abef323304f1a0b95e96203e37ebe76e434f97318103edcb4bf9f9"), looks := false }, kinds := [], alts := [], laidByText := true, laidKinds := [.data, .pinned], laidTests := true, laidLooks := .later }
def ForecastExtendsCardSaid : Prop := Claim7.holds Tryd.pinned (.plain (OpenSpec.ofChange forecastExtendsSpec)) forecastExtendsCard

/-- THE SECOND FORM's CARD OF 'ephemerislaw1.ZoneInstants'. -/
def zoneInstantsUptoCard : Claim7 := { stood := { row := zoneInstantsUptoRow, standIns := [], harness := (true, "0590ed8924abef323304f1a0b95e96203e37ebe76e434f97318103edcb4bf9f9"), looks := false }, kinds := [], alts := [], laidByText := true, laidKinds := [.data, .pinned], laidTests := true, laidLooks := .later }
def ZoneInstantsUptoCardSaid : Prop := Claim7.holds Tryd.pinned (.plain (OpenSpec.upto zoneInstantsSpec)) zoneInstantsUptoCard

/-- THE SECOND FORM's CARD OF 'ephemerislaw1.ForecastYears'. -/
def forecastYearsUptoCard : Claim7 := { stood := { row := forecastYearsUptoRow, standIns := [], harness := (true, "0590ed8924abef323304f1a0b95e96203e37ebe76e434f97318103edcb4bf9f9"), looks := false }, kinds := [], alts := [], laidByText := true, laidKinds := [.data, .pinned], laidTests := true, laidLooks := .later }
def ForecastYearsUptoCardSaid : Prop := Claim7.holds Tryd.pinned (.plain (OpenSpec.upto forecastYearsSpec)) forecastYearsUptoCard

/-- THE SECOND FORM's CARD OF 'ephemerislaw1.ForecastExtends'. -/
def forecastExtendsUptoCard : Claim7 := { stood := { row := forecastExtendsUptoRow, standIns := [], harness := (true, "0590ed8924abef323304f1a0b95e96203e37ebe76e434f97318103edcb4bf9f9"), looks := false }, kinds := [], alts := [], laidByText := true, laidKinds := [.data, .pinned], laidTests := true, laidLooks := .later }
def ForecastExtendsUptoCardSaid : Prop := Claim7.holds Tryd.pinned (.plain (OpenSpec.upto forecastExtendsSpec)) forecastExtendsUptoCard
end Rows
end Go.Proofs.YtjpbkkoflaajcabDoor
