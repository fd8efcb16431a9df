/-
  No cell of these rows narrows 'for every input' (looked for: loops, veiled, ifaces, maps, wideKeys, modest, calm, conditions, laid).
  DERIVED. THE GIVEN ROWS OF THIS SEAT. 12 by the template 'for every input the law returns true; each argument reads behind the call as it read before'; 0 by the template 'total and deterministic' (their statements: YthjigdmjoleeaaaTotals.lean).
  GIVEN WITH THE SEED: the statements are not yours to turn. If you find one false, say at which input.
  Laid BY PROGRAM, IN A SANDBOX (cutbox-rows.mjs): the forced cells as the released guide's own fill.sh prints them over the translation bfd2f6512c064c76… (all of the seat's roots in one cut). By AI agents, Wed Nov 11 2026. No macro, syntax, notation, axiom, sorry.
-/
import Derived.Test.YthjigdmjoleeaaaChecked
import GoSem.Claim
import GoSem.ClaimJoined
import GoSem.ClaimMapViews
import Derived.JoinedTies
import Derived.KernelRfl
namespace Go.Proofs.Ythjigdmjoleeaaa
/- THE CELL 'sum', in the pinned program and in every row, IS THE sha256 OF THE DUMP (.gsa) THAT YthjigdmjoleeaaaProg.lean LOADS. Nothing in Lean hashes anything: it is a label: what it is worth is what the hold of that sum in a sandbox is worth. -/
noncomputable def Try.pinned : Pinned := { name := "ythjigdmjoleeaaa", sum := "bfd2f6512c064c76834a5103e224199b8b5fedfe75bdea17c2e4dec6a5c1958e", checked := Try.checked }
namespace Rows
def none {H : Type} : Left H := { results := [], args := [] }

/-- 'ephemerislaw1.WholeDivides': WHATEVER THE INPUT: true; the input reads as it did. -/
def wholeDividesSpec : ChangeSpec := { name := "wholeDivides", fn := fun _ => fun
  | [d1, d2] => { results := [.lit (.bool true)], args := [d1, d2] }
  | _ => none }
def wholeDividesRow : OpenClaim := { program := "ythjigdmjoleeaaa", sum := "bfd2f6512c064c76834a5103e224199b8b5fedfe75bdea17c2e4dec6a5c1958e", func := "ephemeris/ephemerislaw1.WholeDivides", spec := "wholeDivides", apart := false }
def WholeDividesSaid : Prop := wholeDividesRow.holds Try.pinned (OpenSpec.ofChange wholeDividesSpec)

/-- ITS FALSE NEIGHBOUR: 'it returns false'. Refute it at one input. -/
def wholeDividesWrong : ChangeSpec := { name := "wholeDivides", fn := fun _ => fun
  | [d1, d2] => { results := [.lit (.bool false)], args := [d1, d2] }
  | _ => none }
def WholeDividesWrongFalsely : Prop := wholeDividesRow.holds Try.pinned (OpenSpec.ofChange wholeDividesWrong)

/-- 'ephemerislaw1.FracChecks': WHATEVER THE INPUT: true; the input reads as it did. -/
def fracChecksSpec : ChangeSpec := { name := "fracChecks", fn := fun _ => fun
  | [d1, d2, d3] => { results := [.lit (.bool true)], args := [d1, d2, d3] }
  | _ => none }
def fracChecksRow : OpenClaim := { program := "ythjigdmjoleeaaa", sum := "bfd2f6512c064c76834a5103e224199b8b5fedfe75bdea17c2e4dec6a5c1958e", func := "ephemeris/ephemerislaw1.FracChecks", spec := "fracChecks", apart := false }
def FracChecksSaid : Prop := fracChecksRow.holds Try.pinned (OpenSpec.ofChange fracChecksSpec)

/-- ITS FALSE NEIGHBOUR: 'it returns false'. Refute it at one input. -/
def fracChecksWrong : ChangeSpec := { name := "fracChecks", fn := fun _ => fun
  | [d1, d2, d3] => { results := [.lit (.bool false)], args := [d1, d2, d3] }
  | _ => none }
def FracChecksWrongFalsely : Prop := fracChecksRow.holds Try.pinned (OpenSpec.ofChange fracChecksWrong)

/-- 'ephemerislaw1.LineDates': WHATEVER THE INPUT: true; the input reads as it did. -/
def lineDatesSpec : ChangeSpec := { name := "lineDates", fn := fun _ => fun
  | [d] => { results := [.lit (.bool true)], args := [d] }
  | _ => none }
def lineDatesRow : OpenClaim := { program := "ythjigdmjoleeaaa", sum := "bfd2f6512c064c76834a5103e224199b8b5fedfe75bdea17c2e4dec6a5c1958e", func := "ephemeris/ephemerislaw1.LineDates", spec := "lineDates", apart := false }
def LineDatesSaid : Prop := lineDatesRow.holds Try.pinned (OpenSpec.ofChange lineDatesSpec)

/-- ITS FALSE NEIGHBOUR: 'it returns false'. Refute it at one input. -/
def lineDatesWrong : ChangeSpec := { name := "lineDates", fn := fun _ => fun
  | [d] => { results := [.lit (.bool false)], args := [d] }
  | _ => none }
def LineDatesWrongFalsely : Prop := lineDatesRow.holds Try.pinned (OpenSpec.ofChange lineDatesWrong)

/-- 'ephemerislaw1.FracCompares': WHATEVER THE INPUT: true; the input reads as it did. -/
def fracComparesSpec : ChangeSpec := { name := "fracCompares", fn := fun _ => fun
  | [d1, d2] => { results := [.lit (.bool true)], args := [d1, d2] }
  | _ => none }
def fracComparesRow : OpenClaim := { program := "ythjigdmjoleeaaa", sum := "bfd2f6512c064c76834a5103e224199b8b5fedfe75bdea17c2e4dec6a5c1958e", func := "ephemeris/ephemerislaw1.FracCompares", spec := "fracCompares", apart := false }
def FracComparesSaid : Prop := fracComparesRow.holds Try.pinned (OpenSpec.ofChange fracComparesSpec)

/-- ITS FALSE NEIGHBOUR: 'it returns false'. Refute it at one input. -/
def fracComparesWrong : ChangeSpec := { name := "fracCompares", fn := fun _ => fun
  | [d1, d2] => { results := [.lit (.bool false)], args := [d1, d2] }
  | _ => none }
def FracComparesWrongFalsely : Prop := fracComparesRow.holds Try.pinned (OpenSpec.ofChange fracComparesWrong)

/-- 'ephemerislaw1.CompileChecks': WHATEVER THE INPUT: true; the input reads as it did. -/
def compileChecksSpec : ChangeSpec := { name := "compileChecks", fn := fun _ => fun
  | [d] => { results := [.lit (.bool true)], args := [d] }
  | _ => none }
def compileChecksRow : OpenClaim := { program := "ythjigdmjoleeaaa", sum := "bfd2f6512c064c76834a5103e224199b8b5fedfe75bdea17c2e4dec6a5c1958e", func := "ephemeris/ephemerislaw1.CompileChecks", spec := "compileChecks", unfollowed := true, recurses := true, apart := false }
def CompileChecksSaid : Prop := compileChecksRow.holds Try.pinned (OpenSpec.ofChange compileChecksSpec)

/-- ITS FALSE NEIGHBOUR: 'it returns false'. Refute it at one input. -/
def compileChecksWrong : ChangeSpec := { name := "compileChecks", fn := fun _ => fun
  | [d] => { results := [.lit (.bool false)], args := [d] }
  | _ => none }
def CompileChecksWrongFalsely : Prop := compileChecksRow.holds Try.pinned (OpenSpec.ofChange compileChecksWrong)

/-- 'ephemerislaw1.CycleOfs': WHATEVER THE INPUT: true; the input reads as it did. -/
def cycleOfsSpec : ChangeSpec := { name := "cycleOfs", fn := fun _ => fun
  | [d1, d2] => { results := [.lit (.bool true)], args := [d1, d2] }
  | _ => none }
def cycleOfsRow : OpenClaim := { program := "ythjigdmjoleeaaa", sum := "bfd2f6512c064c76834a5103e224199b8b5fedfe75bdea17c2e4dec6a5c1958e", func := "ephemeris/ephemerislaw1.CycleOfs", spec := "cycleOfs", apart := false }
def CycleOfsSaid : Prop := cycleOfsRow.holds Try.pinned (OpenSpec.ofChange cycleOfsSpec)

/-- ITS FALSE NEIGHBOUR: 'it returns false'. Refute it at one input. -/
def cycleOfsWrong : ChangeSpec := { name := "cycleOfs", fn := fun _ => fun
  | [d1, d2] => { results := [.lit (.bool false)], args := [d1, d2] }
  | _ => none }
def CycleOfsWrongFalsely : Prop := cycleOfsRow.holds Try.pinned (OpenSpec.ofChange cycleOfsWrong)

/-- 'ephemerislaw1.WholeMeets': WHATEVER THE INPUT: true; the input reads as it did. -/
def wholeMeetsSpec : ChangeSpec := { name := "wholeMeets", fn := fun _ => fun
  | [d1, d2, d3, d4] => { results := [.lit (.bool true)], args := [d1, d2, d3, d4] }
  | _ => none }
def wholeMeetsRow : OpenClaim := { program := "ythjigdmjoleeaaa", sum := "bfd2f6512c064c76834a5103e224199b8b5fedfe75bdea17c2e4dec6a5c1958e", func := "ephemeris/ephemerislaw1.WholeMeets", spec := "wholeMeets", apart := false }
def WholeMeetsSaid : Prop := wholeMeetsRow.holds Try.pinned (OpenSpec.ofChange wholeMeetsSpec)

/-- ITS FALSE NEIGHBOUR: 'it returns false'. Refute it at one input. -/
def wholeMeetsWrong : ChangeSpec := { name := "wholeMeets", fn := fun _ => fun
  | [d1, d2, d3, d4] => { results := [.lit (.bool false)], args := [d1, d2, d3, d4] }
  | _ => none }
def WholeMeetsWrongFalsely : Prop := wholeMeetsRow.holds Try.pinned (OpenSpec.ofChange wholeMeetsWrong)

/-- 'ephemerislaw1.ObservedDates': WHATEVER THE INPUT: true; the input reads as it did. -/
def observedDatesSpec : ChangeSpec := { name := "observedDates", fn := fun _ => fun
  | [d1, d2, d3] => { results := [.lit (.bool true)], args := [d1, d2, d3] }
  | _ => none }
def observedDatesRow : OpenClaim := { program := "ythjigdmjoleeaaa", sum := "bfd2f6512c064c76834a5103e224199b8b5fedfe75bdea17c2e4dec6a5c1958e", func := "ephemeris/ephemerislaw1.ObservedDates", spec := "observedDates", apart := false }
def ObservedDatesSaid : Prop := observedDatesRow.holds Try.pinned (OpenSpec.ofChange observedDatesSpec)

/-- ITS FALSE NEIGHBOUR: 'it returns false'. Refute it at one input. -/
def observedDatesWrong : ChangeSpec := { name := "observedDates", fn := fun _ => fun
  | [d1, d2, d3] => { results := [.lit (.bool false)], args := [d1, d2, d3] }
  | _ => none }
def ObservedDatesWrongFalsely : Prop := observedDatesRow.holds Try.pinned (OpenSpec.ofChange observedDatesWrong)

/-- 'ephemerislaw1.FracReckons': WHATEVER THE INPUT: true; the input reads as it did. -/
def fracReckonsSpec : ChangeSpec := { name := "fracReckons", fn := fun _ => fun
  | [d1, d2] => { results := [.lit (.bool true)], args := [d1, d2] }
  | _ => none }
def fracReckonsRow : OpenClaim := { program := "ythjigdmjoleeaaa", sum := "bfd2f6512c064c76834a5103e224199b8b5fedfe75bdea17c2e4dec6a5c1958e", func := "ephemeris/ephemerislaw1.FracReckons", spec := "fracReckons", apart := false }
def FracReckonsSaid : Prop := fracReckonsRow.holds Try.pinned (OpenSpec.ofChange fracReckonsSpec)

/-- ITS FALSE NEIGHBOUR: 'it returns false'. Refute it at one input. -/
def fracReckonsWrong : ChangeSpec := { name := "fracReckons", fn := fun _ => fun
  | [d1, d2] => { results := [.lit (.bool false)], args := [d1, d2] }
  | _ => none }
def FracReckonsWrongFalsely : Prop := fracReckonsRow.holds Try.pinned (OpenSpec.ofChange fracReckonsWrong)

/-- 'ephemerislaw1.CompileTotals': WHATEVER THE INPUT: true; the input reads as it did. -/
def compileTotalsSpec : ChangeSpec := { name := "compileTotals", fn := fun _ => fun
  | [d] => { results := [.lit (.bool true)], args := [d] }
  | _ => none }
def compileTotalsRow : OpenClaim := { program := "ythjigdmjoleeaaa", sum := "bfd2f6512c064c76834a5103e224199b8b5fedfe75bdea17c2e4dec6a5c1958e", func := "ephemeris/ephemerislaw1.CompileTotals", spec := "compileTotals", unfollowed := true, recurses := true, apart := false }
def CompileTotalsSaid : Prop := compileTotalsRow.holds Try.pinned (OpenSpec.ofChange compileTotalsSpec)

/-- ITS FALSE NEIGHBOUR: 'it returns false'. Refute it at one input. -/
def compileTotalsWrong : ChangeSpec := { name := "compileTotals", fn := fun _ => fun
  | [d] => { results := [.lit (.bool false)], args := [d] }
  | _ => none }
def CompileTotalsWrongFalsely : Prop := compileTotalsRow.holds Try.pinned (OpenSpec.ofChange compileTotalsWrong)

/-- 'ephemerislaw1.WholeRoots': WHATEVER THE INPUT: true; the input reads as it did. -/
def wholeRootsSpec : ChangeSpec := { name := "wholeRoots", fn := fun _ => fun
  | [d] => { results := [.lit (.bool true)], args := [d] }
  | _ => none }
def wholeRootsRow : OpenClaim := { program := "ythjigdmjoleeaaa", sum := "bfd2f6512c064c76834a5103e224199b8b5fedfe75bdea17c2e4dec6a5c1958e", func := "ephemeris/ephemerislaw1.WholeRoots", spec := "wholeRoots", inPlace := ["math.sqrt"], apart := false }
def WholeRootsSaid : Prop := wholeRootsRow.holds Try.pinned (OpenSpec.ofChange wholeRootsSpec)

/-- ITS FALSE NEIGHBOUR: 'it returns false'. Refute it at one input. -/
def wholeRootsWrong : ChangeSpec := { name := "wholeRoots", fn := fun _ => fun
  | [d] => { results := [.lit (.bool false)], args := [d] }
  | _ => none }
def WholeRootsWrongFalsely : Prop := wholeRootsRow.holds Try.pinned (OpenSpec.ofChange wholeRootsWrong)

/-- 'ephemerislaw1.LunisolarChecks': WHATEVER THE INPUT: true; the input reads as it did. -/
def lunisolarChecksSpec : ChangeSpec := { name := "lunisolarChecks", fn := fun _ => fun
  | [d] => { results := [.lit (.bool true)], args := [d] }
  | _ => none }
def lunisolarChecksRow : OpenClaim := { program := "ythjigdmjoleeaaa", sum := "bfd2f6512c064c76834a5103e224199b8b5fedfe75bdea17c2e4dec6a5c1958e", func := "ephemeris/ephemerislaw1.LunisolarChecks", spec := "lunisolarChecks", apart := false }
def LunisolarChecksSaid : Prop := lunisolarChecksRow.holds Try.pinned (OpenSpec.ofChange lunisolarChecksSpec)

/-- ITS FALSE NEIGHBOUR: 'it returns false'. Refute it at one input. -/
def lunisolarChecksWrong : ChangeSpec := { name := "lunisolarChecks", fn := fun _ => fun
  | [d] => { results := [.lit (.bool false)], args := [d] }
  | _ => none }
def LunisolarChecksWrongFalsely : Prop := lunisolarChecksRow.holds Try.pinned (OpenSpec.ofChange lunisolarChecksWrong)

/- THE SECOND FORM. 'bulk': how many values and letters a reading holds, each counted each time it is reached (what is shared counts as often as it is met; a slice's spare places count too). A statement '..UptoSaid' is the law's where the arguments, and the package variables that the reading takes, are together of bulk at most 1048576: NARROWER than '..Said'. Prove '..Said' where nothing that the law and all that it calls make is longer than what came in: it says more and counts as full. Else prove '..UptoSaid'. A law counts once. -/
mutual
def uptoBulk {H : Type} : DataW H → Nat
  | .lit (.string bytes) => bytes.length + 1
  | .lit _ => 1
  | .nil => 1
  | .ptr d => uptoBulk d + 1
  | .slice elems spare => uptoBulkAll elems + uptoBulkAll spare + 1
  | .agg parts => uptoBulkAll parts + 1
  | .iface _ d => uptoBulk d + 1
  | .map entries => uptoBulkEntries entries + 1
  | .held _ => 1
def uptoBulkAll {H : Type} : List (DataW H) → Nat
  | [] => 0
  | d :: r => uptoBulk d + uptoBulkAll r
def uptoBulkEntries {H : Type} : List (Lit × DataW H) → Nat
  | [] => 0
  | x :: r => uptoBulkEntry x + uptoBulkEntries r
def uptoBulkEntry {H : Type} : Lit × DataW H → Nat
  | (.string bytes, d) => bytes.length + uptoBulk d + 1
  | (_, d) => uptoBulk d + 1
 end
def uptoSmall : (H : Type) → List (DataW H) → Bool := fun _ ds => decide (uptoBulkAll ds ≤ 1048576)
def OpenSpec.upto (s : _root_.Go.ChangeSpec) : _root_.Go.OpenSpec := { _root_.Go.OpenSpec.ofChange s with cond := some uptoSmall }

/-- 'ephemerislaw1.WholeDivides', WHERE WHAT IT READS IS OF BULK AT MOST 1048576: true; the input reads as it did. -/
def wholeDividesUptoRow : OpenClaim := { program := "ythjigdmjoleeaaa", sum := "bfd2f6512c064c76834a5103e224199b8b5fedfe75bdea17c2e4dec6a5c1958e", func := "ephemeris/ephemerislaw1.WholeDivides", spec := "wholeDivides", apart := false, narrowed := true }
def WholeDividesUptoSaid : Prop := wholeDividesUptoRow.holds Try.pinned (OpenSpec.upto wholeDividesSpec)

/-- 'ephemerislaw1.FracChecks', WHERE WHAT IT READS IS OF BULK AT MOST 1048576: true; the input reads as it did. -/
def fracChecksUptoRow : OpenClaim := { program := "ythjigdmjoleeaaa", sum := "bfd2f6512c064c76834a5103e224199b8b5fedfe75bdea17c2e4dec6a5c1958e", func := "ephemeris/ephemerislaw1.FracChecks", spec := "fracChecks", apart := false, narrowed := true }
def FracChecksUptoSaid : Prop := fracChecksUptoRow.holds Try.pinned (OpenSpec.upto fracChecksSpec)

/-- 'ephemerislaw1.LineDates', WHERE WHAT IT READS IS OF BULK AT MOST 1048576: true; the input reads as it did. -/
def lineDatesUptoRow : OpenClaim := { program := "ythjigdmjoleeaaa", sum := "bfd2f6512c064c76834a5103e224199b8b5fedfe75bdea17c2e4dec6a5c1958e", func := "ephemeris/ephemerislaw1.LineDates", spec := "lineDates", apart := false, narrowed := true }
def LineDatesUptoSaid : Prop := lineDatesUptoRow.holds Try.pinned (OpenSpec.upto lineDatesSpec)

/-- 'ephemerislaw1.FracCompares', WHERE WHAT IT READS IS OF BULK AT MOST 1048576: true; the input reads as it did. -/
def fracComparesUptoRow : OpenClaim := { program := "ythjigdmjoleeaaa", sum := "bfd2f6512c064c76834a5103e224199b8b5fedfe75bdea17c2e4dec6a5c1958e", func := "ephemeris/ephemerislaw1.FracCompares", spec := "fracCompares", apart := false, narrowed := true }
def FracComparesUptoSaid : Prop := fracComparesUptoRow.holds Try.pinned (OpenSpec.upto fracComparesSpec)

/-- 'ephemerislaw1.CompileChecks', WHERE WHAT IT READS IS OF BULK AT MOST 1048576: true; the input reads as it did. -/
def compileChecksUptoRow : OpenClaim := { program := "ythjigdmjoleeaaa", sum := "bfd2f6512c064c76834a5103e224199b8b5fedfe75bdea17c2e4dec6a5c1958e", func := "ephemeris/ephemerislaw1.CompileChecks", spec := "compileChecks", unfollowed := true, recurses := true, apart := false, narrowed := true }
def CompileChecksUptoSaid : Prop := compileChecksUptoRow.holds Try.pinned (OpenSpec.upto compileChecksSpec)

/-- 'ephemerislaw1.CycleOfs', WHERE WHAT IT READS IS OF BULK AT MOST 1048576: true; the input reads as it did. -/
def cycleOfsUptoRow : OpenClaim := { program := "ythjigdmjoleeaaa", sum := "bfd2f6512c064c76834a5103e224199b8b5fedfe75bdea17c2e4dec6a5c1958e", func := "ephemeris/ephemerislaw1.CycleOfs", spec := "cycleOfs", apart := false, narrowed := true }
def CycleOfsUptoSaid : Prop := cycleOfsUptoRow.holds Try.pinned (OpenSpec.upto cycleOfsSpec)

/-- 'ephemerislaw1.WholeMeets', WHERE WHAT IT READS IS OF BULK AT MOST 1048576: true; the input reads as it did. -/
def wholeMeetsUptoRow : OpenClaim := { program := "ythjigdmjoleeaaa", sum := "bfd2f6512c064c76834a5103e224199b8b5fedfe75bdea17c2e4dec6a5c1958e", func := "ephemeris/ephemerislaw1.WholeMeets", spec := "wholeMeets", apart := false, narrowed := true }
def WholeMeetsUptoSaid : Prop := wholeMeetsUptoRow.holds Try.pinned (OpenSpec.upto wholeMeetsSpec)

/-- 'ephemerislaw1.ObservedDates', WHERE WHAT IT READS IS OF BULK AT MOST 1048576: true; the input reads as it did. -/
def observedDatesUptoRow : OpenClaim := { program := "ythjigdmjoleeaaa", sum := "bfd2f6512c064c76834a5103e224199b8b5fedfe75bdea17c2e4dec6a5c1958e", func := "ephemeris/ephemerislaw1.ObservedDates", spec := "observedDates", apart := false, narrowed := true }
def ObservedDatesUptoSaid : Prop := observedDatesUptoRow.holds Try.pinned (OpenSpec.upto observedDatesSpec)

/-- 'ephemerislaw1.FracReckons', WHERE WHAT IT READS IS OF BULK AT MOST 1048576: true; the input reads as it did. -/
def fracReckonsUptoRow : OpenClaim := { program := "ythjigdmjoleeaaa", sum := "bfd2f6512c064c76834a5103e224199b8b5fedfe75bdea17c2e4dec6a5c1958e", func := "ephemeris/ephemerislaw1.FracReckons", spec := "fracReckons", apart := false, narrowed := true }
def FracReckonsUptoSaid : Prop := fracReckonsUptoRow.holds Try.pinned (OpenSpec.upto fracReckonsSpec)

/-- 'ephemerislaw1.CompileTotals', WHERE WHAT IT READS IS OF BULK AT MOST 1048576: true; the input reads as it did. -/
def compileTotalsUptoRow : OpenClaim := { program := "ythjigdmjoleeaaa", sum := "bfd2f6512c064c76834a5103e224199b8b5fedfe75bdea17c2e4dec6a5c1958e", func := "ephemeris/ephemerislaw1.CompileTotals", spec := "compileTotals", unfollowed := true, recurses := true, apart := false, narrowed := true }
def CompileTotalsUptoSaid : Prop := compileTotalsUptoRow.holds Try.pinned (OpenSpec.upto compileTotalsSpec)

/-- 'ephemerislaw1.WholeRoots', WHERE WHAT IT READS IS OF BULK AT MOST 1048576: true; the input reads as it did. -/
def wholeRootsUptoRow : OpenClaim := { program := "ythjigdmjoleeaaa", sum := "bfd2f6512c064c76834a5103e224199b8b5fedfe75bdea17c2e4dec6a5c1958e", func := "ephemeris/ephemerislaw1.WholeRoots", spec := "wholeRoots", inPlace := ["math.sqrt"], apart := false, narrowed := true }
def WholeRootsUptoSaid : Prop := wholeRootsUptoRow.holds Try.pinned (OpenSpec.upto wholeRootsSpec)

/-- 'ephemerislaw1.LunisolarChecks', WHERE WHAT IT READS IS OF BULK AT MOST 1048576: true; the input reads as it did. -/
def lunisolarChecksUptoRow : OpenClaim := { program := "ythjigdmjoleeaaa", sum := "bfd2f6512c064c76834a5103e224199b8b5fedfe75bdea17c2e4dec6a5c1958e", func := "ephemeris/ephemerislaw1.LunisolarChecks", spec := "lunisolarChecks", apart := false, narrowed := true }
def LunisolarChecksUptoSaid : Prop := lunisolarChecksUptoRow.holds Try.pinned (OpenSpec.upto lunisolarChecksSpec)

end Rows
end Go.Proofs.Ythjigdmjoleeaaa
