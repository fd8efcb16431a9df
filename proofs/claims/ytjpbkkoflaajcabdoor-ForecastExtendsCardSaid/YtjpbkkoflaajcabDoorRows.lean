/-
  NARROWER THAN 'FOR EVERY INPUT', by the rows' own cells (each row's printed sentence says how): ZoneInstants: laid · ForecastYears: laid · ForecastExtends: laid.
  DERIVED. THE GIVEN ROWS OF THIS SEAT. 3 by the template 'for every input the law returns true; each argument reads behind the call as it read before'; 0 by the template 'total and deterministic' (their statements: YtjpbkkoflaajcabDoorTotals.lean).
  GIVEN WITH THE SEED: the statements are not yours to turn. If you find one false, say at which input.
  Laid BY PROGRAM, IN A SANDBOX (cutbox-rows.mjs): the forced cells as the released guide's own fill.sh prints them over the translation e2e9f876e6814a77… (all of the seat's roots in one cut). By AI agents, Wed Nov 11 2026. No macro, syntax, notation, axiom, sorry.
-/
import Derived.Test.YtjpbkkoflaajcabDoorChecked
import GoSem.PinnedTables
import GoSem.Claim
import GoSem.ClaimJoined
import GoSem.ClaimMapViews
import Derived.JoinedTies
import Derived.KernelRfl
namespace Go.Proofs.YtjpbkkoflaajcabDoor
/- THE CELL 'sum', in the pinned program and in every row, IS THE sha256 OF THE DUMP (.gsa) THAT YtjpbkkoflaajcabDoorProg.lean LOADS. Nothing in Lean hashes anything: it is a label: what it is worth is what the hold of that sum in a sandbox is worth. -/
noncomputable def Tryd.pinned : Pinned := { name := "ytjpbkkoflaajcabdoor", sum := "e2e9f876e6814a7750f64f8b8cae0a1c76eeb2b9f56f2ae506e7c15d3a7fdbb5", checked := Tryd.checked }
namespace Rows
def none {H : Type} : Left H := { results := [], args := [] }

/- WHAT THE LISTED PACKAGE-LEVEL VARIABLES READ AS WHEN THE CALL BEGINS. Each datum BY PROGRAM (the guide's laid-datum.mjs) off the statement by which the dump's own 'gosem.cut.vars' lays the variable. In a bare row this is a premise. The card (YtjpbkkoflaajcabDoorCards.lean) ties it to the program's text. -/
def laid_unicode_utf8_acceptRanges {H : Type} : DataW H := .agg [.agg [.lit (.int .u8 128), .lit (.int .u8 191)], .agg [.lit (.int .u8 160), .lit (.int .u8 191)], .agg [.lit (.int .u8 128), .lit (.int .u8 159)], .agg [.lit (.int .u8 144), .lit (.int .u8 191)], .agg [.lit (.int .u8 128), .lit (.int .u8 143)], .agg [.lit (.int .u8 0), .lit (.int .u8 0)], .agg [.lit (.int .u8 0), .lit (.int .u8 0)], .agg [.lit (.int .u8 0), .lit (.int .u8 0)], .agg [.lit (.int .u8 0), .lit (.int .u8 0)], .agg [.lit (.int .u8 0), .lit (.int .u8 0)], .agg [.lit (.int .u8 0), .lit (.int .u8 0)], .agg [.lit (.int .u8 0), .lit (.int .u8 0)], .agg [.lit (.int .u8 0), .lit (.int .u8 0)], .agg [.lit (.int .u8 0), .lit (.int .u8 0)], .agg [.lit (.int .u8 0), .lit (.int .u8 0)], .agg [.lit (.int .u8 0), .lit (.int .u8 0)]]
/-- One of Go's own tables, pinned by name: the form's constant. -/
def laid_unicode_utf8_first : DataW Unit := Go.Pinned.utf8First

/-- 'ephemerislaw1.ZoneInstants': WHATEVER THE INPUT: true; the input reads as it did. -/
def zoneInstantsSpec : ChangeSpec := { name := "zoneInstants", fn := fun _ => fun
  | [d1, d2, d3] => { results := [.lit (.bool true)], args := [d1, d2, d3] }
  | _ => none }
def zoneInstantsRow : OpenClaim := { program := "ytjpbkkoflaajcabdoor", sum := "e2e9f876e6814a7750f64f8b8cae0a1c76eeb2b9f56f2ae506e7c15d3a7fdbb5", func := "ephemeris/ephemerislaw1.ZoneInstants", spec := "zoneInstants", inPlace := ["internal/bytealg.IndexByteString", "internal/bytealg.IndexString"], named := ["unicode/utf8.first", "unicode/utf8.acceptRanges", "internal/bytealg.MaxLen"], apart := false, laid := [("unicode/utf8.acceptRanges", laid_unicode_utf8_acceptRanges), ("unicode/utf8.first", laid_unicode_utf8_first)] }
def ZoneInstantsSaid : Prop := zoneInstantsRow.holds Tryd.pinned (OpenSpec.ofChange zoneInstantsSpec)

/-- ITS FALSE NEIGHBOUR: 'it returns false'. Refute it at one input. -/
def zoneInstantsWrong : ChangeSpec := { name := "zoneInstants", fn := fun _ => fun
  | [d1, d2, d3] => { results := [.lit (.bool false)], args := [d1, d2, d3] }
  | _ => none }
def ZoneInstantsWrongFalsely : Prop := zoneInstantsRow.holds Tryd.pinned (OpenSpec.ofChange zoneInstantsWrong)

/-- 'ephemerislaw1.ForecastYears': WHATEVER THE INPUT: true; the input reads as it did. -/
def forecastYearsSpec : ChangeSpec := { name := "forecastYears", fn := fun _ => fun
  | [d1, d2, d3] => { results := [.lit (.bool true)], args := [d1, d2, d3] }
  | _ => none }
def forecastYearsRow : OpenClaim := { program := "ytjpbkkoflaajcabdoor", sum := "e2e9f876e6814a7750f64f8b8cae0a1c76eeb2b9f56f2ae506e7c15d3a7fdbb5", func := "ephemeris/ephemerislaw1.ForecastYears", spec := "forecastYears", inPlace := ["internal/bytealg.IndexByteString", "internal/bytealg.IndexString"], named := ["unicode/utf8.first", "unicode/utf8.acceptRanges", "internal/bytealg.MaxLen"], apart := false, laid := [("unicode/utf8.acceptRanges", laid_unicode_utf8_acceptRanges), ("unicode/utf8.first", laid_unicode_utf8_first)] }
def ForecastYearsSaid : Prop := forecastYearsRow.holds Tryd.pinned (OpenSpec.ofChange forecastYearsSpec)

/-- ITS FALSE NEIGHBOUR: 'it returns false'. Refute it at one input. -/
def forecastYearsWrong : ChangeSpec := { name := "forecastYears", fn := fun _ => fun
  | [d1, d2, d3] => { results := [.lit (.bool false)], args := [d1, d2, d3] }
  | _ => none }
def ForecastYearsWrongFalsely : Prop := forecastYearsRow.holds Tryd.pinned (OpenSpec.ofChange forecastYearsWrong)

/-- 'ephemerislaw1.ForecastExtends': WHATEVER THE INPUT: true; the input reads as it did. -/
def forecastExtendsSpec : ChangeSpec := { name := "forecastExtends", fn := fun _ => fun
  | [d1, d2, d3, d4] => { results := [.lit (.bool true)], args := [d1, d2, d3, d4] }
  | _ => none }
def forecastExtendsRow : OpenClaim := { program := "ytjpbkkoflaajcabdoor", sum := "e2e9f876e6814a7750f64f8b8cae0a1c76eeb2b9f56f2ae506e7c15d3a7fdbb5", func := "ephemeris/ephemerislaw1.ForecastExtends", spec := "forecastExtends", inPlace := ["internal/bytealg.IndexByteString", "internal/bytealg.IndexString"], named := ["unicode/utf8.first", "unicode/utf8.acceptRanges", "internal/bytealg.MaxLen"], apart := false, laid := [("unicode/utf8.acceptRanges", laid_unicode_utf8_acceptRanges), ("unicode/utf8.first", laid_unicode_utf8_first)] }
def ForecastExtendsSaid : Prop := forecastExtendsRow.holds Tryd.pinned (OpenSpec.ofChange forecastExtendsSpec)

/-- ITS FALSE NEIGHBOUR: 'it returns false'. Refute it at one input. -/
def forecastExtendsWrong : ChangeSpec := { name := "forecastExtends", fn := fun _ => fun
  | [d1, d2, d3, d4] => { results := [.lit (.bool false)], args := [d1, d2, d3, d4] }
  | _ => none }
def ForecastExtendsWrongFalsely : Prop := forecastExtendsRow.holds Tryd.pinned (OpenSpec.ofChange forecastExtendsWrong)

/- THE SECOND FORM. 'bulk': how many values and letters a reading holds, each counted each time it is reached (what is shared counts as often as it is met; a slice's spare places count too). A statement '..UptoSaid' is the law's where the arguments, and the package variables that the reading takes, are together of bulk at most 1048576: NARROWER than '..Said'. Prove '..Said' where nothing that the law and all that it calls make is longer than what came in: it says more and counts as full. Else prove '..UptoSaid'. A law counts once. -/
mutual
def uptoBulk {H : Type} : DataW H → Nat
  | .lit (.string bytes) => bytes.length + 1
  | .lit _ => 1
  | .nil => 1
  | .ptr d => uptoBulk d + 1
  | .slice elems spare => uptoBulkAll elems + uptoBulkAll spare + 1
  | .agg parts => uptoBulkAll parts + 1
  | .iface _ d => uptoBulk d + 1
  | .map entries => uptoBulkEntries entries + 1
  | .held _ => 1
def uptoBulkAll {H : Type} : List (DataW H) → Nat
  | [] => 0
  | d :: r => uptoBulk d + uptoBulkAll r
def uptoBulkEntries {H : Type} : List (Lit × DataW H) → Nat
  | [] => 0
  | x :: r => uptoBulkEntry x + uptoBulkEntries r
def uptoBulkEntry {H : Type} : Lit × DataW H → Nat
  | (.string bytes, d) => bytes.length + uptoBulk d + 1
  | (_, d) => uptoBulk d + 1
 end
def uptoSmall : (H : Type) → List (DataW H) → Bool := fun _ ds => decide (uptoBulkAll ds ≤ 1048576)
def OpenSpec.upto (s : _root_.Go.ChangeSpec) : _root_.Go.OpenSpec := { _root_.Go.OpenSpec.ofChange s with cond := some uptoSmall }

/-- 'ephemerislaw1.ZoneInstants', WHERE WHAT IT READS IS OF BULK AT MOST 1048576: true; the input reads as it did. -/
def zoneInstantsUptoRow : OpenClaim := { program := "ytjpbkkoflaajcabdoor", sum := "e2e9f876e6814a7750f64f8b8cae0a1c76eeb2b9f56f2ae506e7c15d3a7fdbb5", func := "ephemeris/ephemerislaw1.ZoneInstants", spec := "zoneInstants", inPlace := ["internal/bytealg.IndexByteString", "internal/bytealg.IndexString"], named := ["unicode/utf8.first", "unicode/utf8.acceptRanges", "internal/bytealg.MaxLen"], apart := false, laid := [("unicode/utf8.acceptRanges", laid_unicode_utf8_acceptRanges), ("unicode/utf8.first", laid_unicode_utf8_first)], narrowed := true }
def ZoneInstantsUptoSaid : Prop := zoneInstantsUptoRow.holds Tryd.pinned (OpenSpec.upto zoneInstantsSpec)

/-- 'ephemerislaw1.ForecastYears', WHERE WHAT IT READS IS OF BULK AT MOST 1048576: true; the input reads as it did. -/
def forecastYearsUptoRow : OpenClaim := { program := "ytjpbkkoflaajcabdoor", sum := "e2e9f876e6814a7750f64f8b8cae0a1c76eeb2b9f56f2ae506e7c15d3a7fdbb5", func := "ephemeris/ephemerislaw1.ForecastYears", spec := "forecastYears", inPlace := ["internal/bytealg.IndexByteString", "internal/bytealg.IndexString"], named := ["unicode/utf8.first", "unicode/utf8.acceptRanges", "internal/bytealg.MaxLen"], apart := false, laid := [("unicode/utf8.acceptRanges", laid_unicode_utf8_acceptRanges), ("unicode/utf8.first", laid_unicode_utf8_first)], narrowed := true }
def ForecastYearsUptoSaid : Prop := forecastYearsUptoRow.holds Tryd.pinned (OpenSpec.upto forecastYearsSpec)

/-- 'ephemerislaw1.ForecastExtends', WHERE WHAT IT READS IS OF BULK AT MOST 1048576: true; the input reads as it did. -/
def forecastExtendsUptoRow : OpenClaim := { program := "ytjpbkkoflaajcabdoor", sum := "e2e9f876e6814a7750f64f8b8cae0a1c76eeb2b9f56f2ae506e7c15d3a7fdbb5", func := "ephemeris/ephemerislaw1.ForecastExtends", spec := "forecastExtends", inPlace := ["internal/bytealg.IndexByteString", "internal/bytealg.IndexString"], named := ["unicode/utf8.first", "unicode/utf8.acceptRanges", "internal/bytealg.MaxLen"], apart := false, laid := [("unicode/utf8.acceptRanges", laid_unicode_utf8_acceptRanges), ("unicode/utf8.first", laid_unicode_utf8_first)], narrowed := true }
def ForecastExtendsUptoSaid : Prop := forecastExtendsUptoRow.holds Tryd.pinned (OpenSpec.upto forecastExtendsSpec)

end Rows
end Go.Proofs.YtjpbkkoflaajcabDoor
