/-
  NARROWER THAN 'FOR EVERY INPUT', by the rows' own cells (each row's printed sentence says how): RuleChecks: loops · RuleEvals: loops.
  DERIVED. THE GIVEN ROWS OF THIS SEAT. 16 by the template 'for every input the law returns true; each argument reads behind the call as it read before'; 0 by the template 'total and deterministic' (their statements: YtghecclgaaklaaaTotals.lean).
  GIVEN WITH THE SEED: the statements are not yours to turn. If you find one false, say at which input.
  Laid BY PROGRAM, IN A SANDBOX (cutbox-rows.mjs): the forced cells as the released guide's own fill.sh prints them over the translation bcf245108ecb80d6… (all of the seat's roots in one cut). By AI agents, Wed Nov 11 2026. No macro, syntax, notation, axiom, sorry.
-/
import Derived.Test.YtghecclgaaklaaaChecked
import GoSem.Claim
import GoSem.ClaimJoined
import GoSem.ClaimMapViews
import Derived.JoinedTies
import Derived.KernelRfl
namespace Go.Proofs.Ytghecclgaaklaaa
/- THE CELL 'sum', in the pinned program and in every row, IS THE sha256 OF THE DUMP (.gsa) THAT YtghecclgaaklaaaProg.lean LOADS. Nothing in Lean hashes anything: it is a label: what it is worth is what the hold of that sum in a sandbox is worth. -/
noncomputable def Try.pinned : Pinned := { name := "ytghecclgaaklaaa", sum := "bcf245108ecb80d636e6db371b26e656490144fe396966184aaf5c42030f81f1", checked := Try.checked }
namespace Rows
def none {H : Type} : Left H := { results := [], args := [] }

/-- 'ephemerislaw1.LineDays': WHATEVER THE INPUT: true; the input reads as it did. -/
def lineDaysSpec : ChangeSpec := { name := "lineDays", fn := fun _ => fun
  | [d] => { results := [.lit (.bool true)], args := [d] }
  | _ => none }
def lineDaysRow : OpenClaim := { program := "ytghecclgaaklaaa", sum := "bcf245108ecb80d636e6db371b26e656490144fe396966184aaf5c42030f81f1", func := "ephemeris/ephemerislaw1.LineDays", spec := "lineDays", apart := false }
def LineDaysSaid : Prop := lineDaysRow.holds Try.pinned (OpenSpec.ofChange lineDaysSpec)

/-- ITS FALSE NEIGHBOUR: 'it returns false'. Refute it at one input. -/
def lineDaysWrong : ChangeSpec := { name := "lineDays", fn := fun _ => fun
  | [d] => { results := [.lit (.bool false)], args := [d] }
  | _ => none }
def LineDaysWrongFalsely : Prop := lineDaysRow.holds Try.pinned (OpenSpec.ofChange lineDaysWrong)

/-- 'ephemerislaw1.LineDates': WHATEVER THE INPUT: true; the input reads as it did. -/
def lineDatesSpec : ChangeSpec := { name := "lineDates", fn := fun _ => fun
  | [d] => { results := [.lit (.bool true)], args := [d] }
  | _ => none }
def lineDatesRow : OpenClaim := { program := "ytghecclgaaklaaa", sum := "bcf245108ecb80d636e6db371b26e656490144fe396966184aaf5c42030f81f1", func := "ephemeris/ephemerislaw1.LineDates", spec := "lineDates", apart := false }
def LineDatesSaid : Prop := lineDatesRow.holds Try.pinned (OpenSpec.ofChange lineDatesSpec)

/-- ITS FALSE NEIGHBOUR: 'it returns false'. Refute it at one input. -/
def lineDatesWrong : ChangeSpec := { name := "lineDates", fn := fun _ => fun
  | [d] => { results := [.lit (.bool false)], args := [d] }
  | _ => none }
def LineDatesWrongFalsely : Prop := lineDatesRow.holds Try.pinned (OpenSpec.ofChange lineDatesWrong)

/-- 'ephemerislaw1.CompileChecks': WHATEVER THE INPUT: true; the input reads as it did. -/
def compileChecksSpec : ChangeSpec := { name := "compileChecks", fn := fun _ => fun
  | [d] => { results := [.lit (.bool true)], args := [d] }
  | _ => none }
def compileChecksRow : OpenClaim := { program := "ytghecclgaaklaaa", sum := "bcf245108ecb80d636e6db371b26e656490144fe396966184aaf5c42030f81f1", func := "ephemeris/ephemerislaw1.CompileChecks", spec := "compileChecks", unfollowed := true, recurses := true, apart := false }
def CompileChecksSaid : Prop := compileChecksRow.holds Try.pinned (OpenSpec.ofChange compileChecksSpec)

/-- ITS FALSE NEIGHBOUR: 'it returns false'. Refute it at one input. -/
def compileChecksWrong : ChangeSpec := { name := "compileChecks", fn := fun _ => fun
  | [d] => { results := [.lit (.bool false)], args := [d] }
  | _ => none }
def CompileChecksWrongFalsely : Prop := compileChecksRow.holds Try.pinned (OpenSpec.ofChange compileChecksWrong)

/-- 'ephemerislaw1.CycleOfs': WHATEVER THE INPUT: true; the input reads as it did. -/
def cycleOfsSpec : ChangeSpec := { name := "cycleOfs", fn := fun _ => fun
  | [d1, d2] => { results := [.lit (.bool true)], args := [d1, d2] }
  | _ => none }
def cycleOfsRow : OpenClaim := { program := "ytghecclgaaklaaa", sum := "bcf245108ecb80d636e6db371b26e656490144fe396966184aaf5c42030f81f1", func := "ephemeris/ephemerislaw1.CycleOfs", spec := "cycleOfs", apart := false }
def CycleOfsSaid : Prop := cycleOfsRow.holds Try.pinned (OpenSpec.ofChange cycleOfsSpec)

/-- ITS FALSE NEIGHBOUR: 'it returns false'. Refute it at one input. -/
def cycleOfsWrong : ChangeSpec := { name := "cycleOfs", fn := fun _ => fun
  | [d1, d2] => { results := [.lit (.bool false)], args := [d1, d2] }
  | _ => none }
def CycleOfsWrongFalsely : Prop := cycleOfsRow.holds Try.pinned (OpenSpec.ofChange cycleOfsWrong)

/-- 'ephemerislaw1.ObservedDates': WHATEVER THE INPUT: true; the input reads as it did. -/
def observedDatesSpec : ChangeSpec := { name := "observedDates", fn := fun _ => fun
  | [d1, d2, d3] => { results := [.lit (.bool true)], args := [d1, d2, d3] }
  | _ => none }
def observedDatesRow : OpenClaim := { program := "ytghecclgaaklaaa", sum := "bcf245108ecb80d636e6db371b26e656490144fe396966184aaf5c42030f81f1", func := "ephemeris/ephemerislaw1.ObservedDates", spec := "observedDates", apart := false }
def ObservedDatesSaid : Prop := observedDatesRow.holds Try.pinned (OpenSpec.ofChange observedDatesSpec)

/-- ITS FALSE NEIGHBOUR: 'it returns false'. Refute it at one input. -/
def observedDatesWrong : ChangeSpec := { name := "observedDates", fn := fun _ => fun
  | [d1, d2, d3] => { results := [.lit (.bool false)], args := [d1, d2, d3] }
  | _ => none }
def ObservedDatesWrongFalsely : Prop := observedDatesRow.holds Try.pinned (OpenSpec.ofChange observedDatesWrong)

/-- 'ephemerislaw1.CompileTotals': WHATEVER THE INPUT: true; the input reads as it did. -/
def compileTotalsSpec : ChangeSpec := { name := "compileTotals", fn := fun _ => fun
  | [d] => { results := [.lit (.bool true)], args := [d] }
  | _ => none }
def compileTotalsRow : OpenClaim := { program := "ytghecclgaaklaaa", sum := "bcf245108ecb80d636e6db371b26e656490144fe396966184aaf5c42030f81f1", func := "ephemeris/ephemerislaw1.CompileTotals", spec := "compileTotals", unfollowed := true, recurses := true, apart := false }
def CompileTotalsSaid : Prop := compileTotalsRow.holds Try.pinned (OpenSpec.ofChange compileTotalsSpec)

/-- ITS FALSE NEIGHBOUR: 'it returns false'. Refute it at one input. -/
def compileTotalsWrong : ChangeSpec := { name := "compileTotals", fn := fun _ => fun
  | [d] => { results := [.lit (.bool false)], args := [d] }
  | _ => none }
def CompileTotalsWrongFalsely : Prop := compileTotalsRow.holds Try.pinned (OpenSpec.ofChange compileTotalsWrong)

/-- 'ephemerislaw1.LunisolarChecks': WHATEVER THE INPUT: true; the input reads as it did. -/
def lunisolarChecksSpec : ChangeSpec := { name := "lunisolarChecks", fn := fun _ => fun
  | [d] => { results := [.lit (.bool true)], args := [d] }
  | _ => none }
def lunisolarChecksRow : OpenClaim := { program := "ytghecclgaaklaaa", sum := "bcf245108ecb80d636e6db371b26e656490144fe396966184aaf5c42030f81f1", func := "ephemeris/ephemerislaw1.LunisolarChecks", spec := "lunisolarChecks", apart := false }
def LunisolarChecksSaid : Prop := lunisolarChecksRow.holds Try.pinned (OpenSpec.ofChange lunisolarChecksSpec)

/-- ITS FALSE NEIGHBOUR: 'it returns false'. Refute it at one input. -/
def lunisolarChecksWrong : ChangeSpec := { name := "lunisolarChecks", fn := fun _ => fun
  | [d] => { results := [.lit (.bool false)], args := [d] }
  | _ => none }
def LunisolarChecksWrongFalsely : Prop := lunisolarChecksRow.holds Try.pinned (OpenSpec.ofChange lunisolarChecksWrong)

/-- 'ephemerislaw1.ObservedExtends': WHATEVER THE INPUT: true; the input reads as it did. -/
def observedExtendsSpec : ChangeSpec := { name := "observedExtends", fn := fun _ => fun
  | [d1, d2] => { results := [.lit (.bool true)], args := [d1, d2] }
  | _ => none }
def observedExtendsRow : OpenClaim := { program := "ytghecclgaaklaaa", sum := "bcf245108ecb80d636e6db371b26e656490144fe396966184aaf5c42030f81f1", func := "ephemeris/ephemerislaw1.ObservedExtends", spec := "observedExtends", apart := false }
def ObservedExtendsSaid : Prop := observedExtendsRow.holds Try.pinned (OpenSpec.ofChange observedExtendsSpec)

/-- ITS FALSE NEIGHBOUR: 'it returns false'. Refute it at one input. -/
def observedExtendsWrong : ChangeSpec := { name := "observedExtends", fn := fun _ => fun
  | [d1, d2] => { results := [.lit (.bool false)], args := [d1, d2] }
  | _ => none }
def ObservedExtendsWrongFalsely : Prop := observedExtendsRow.holds Try.pinned (OpenSpec.ofChange observedExtendsWrong)

/-- 'ephemerislaw1.RuleChecks': WHATEVER THE INPUT: true; the input reads as it did. -/
def ruleChecksSpec : ChangeSpec := { name := "ruleChecks", fn := fun _ => fun
  | [d] => { results := [.lit (.bool true)], args := [d] }
  | _ => none }
def ruleChecksRow : OpenClaim := { program := "ytghecclgaaklaaa", sum := "bcf245108ecb80d636e6db371b26e656490144fe396966184aaf5c42030f81f1", func := "ephemeris/ephemerislaw1.RuleChecks", spec := "ruleChecks", unfollowed := true, recurses := true, loops := true, apart := false }
def RuleChecksSaid : Prop := ruleChecksRow.holds Try.pinned (OpenSpec.ofChange ruleChecksSpec)

/-- ITS FALSE NEIGHBOUR: 'it returns false'. Refute it at one input. -/
def ruleChecksWrong : ChangeSpec := { name := "ruleChecks", fn := fun _ => fun
  | [d] => { results := [.lit (.bool false)], args := [d] }
  | _ => none }
def RuleChecksWrongFalsely : Prop := ruleChecksRow.holds Try.pinned (OpenSpec.ofChange ruleChecksWrong)

/-- 'ephemerislaw1.RuleEvals': WHATEVER THE INPUT: true; the input reads as it did. -/
def ruleEvalsSpec : ChangeSpec := { name := "ruleEvals", fn := fun _ => fun
  | [d1, d2] => { results := [.lit (.bool true)], args := [d1, d2] }
  | _ => none }
def ruleEvalsRow : OpenClaim := { program := "ytghecclgaaklaaa", sum := "bcf245108ecb80d636e6db371b26e656490144fe396966184aaf5c42030f81f1", func := "ephemeris/ephemerislaw1.RuleEvals", spec := "ruleEvals", recurses := true, loops := true, apart := false }
def RuleEvalsSaid : Prop := ruleEvalsRow.holds Try.pinned (OpenSpec.ofChange ruleEvalsSpec)

/-- ITS FALSE NEIGHBOUR: 'it returns false'. Refute it at one input. -/
def ruleEvalsWrong : ChangeSpec := { name := "ruleEvals", fn := fun _ => fun
  | [d1, d2] => { results := [.lit (.bool false)], args := [d1, d2] }
  | _ => none }
def RuleEvalsWrongFalsely : Prop := ruleEvalsRow.holds Try.pinned (OpenSpec.ofChange ruleEvalsWrong)

/-- 'ephemerislaw1.CompileLeasts': WHATEVER THE INPUT: true; the input reads as it did. -/
def compileLeastsSpec : ChangeSpec := { name := "compileLeasts", fn := fun _ => fun
  | [d] => { results := [.lit (.bool true)], args := [d] }
  | _ => none }
def compileLeastsRow : OpenClaim := { program := "ytghecclgaaklaaa", sum := "bcf245108ecb80d636e6db371b26e656490144fe396966184aaf5c42030f81f1", func := "ephemeris/ephemerislaw1.CompileLeasts", spec := "compileLeasts", unfollowed := true, recurses := true, apart := false }
def CompileLeastsSaid : Prop := compileLeastsRow.holds Try.pinned (OpenSpec.ofChange compileLeastsSpec)

/-- ITS FALSE NEIGHBOUR: 'it returns false'. Refute it at one input. -/
def compileLeastsWrong : ChangeSpec := { name := "compileLeasts", fn := fun _ => fun
  | [d] => { results := [.lit (.bool false)], args := [d] }
  | _ => none }
def CompileLeastsWrongFalsely : Prop := compileLeastsRow.holds Try.pinned (OpenSpec.ofChange compileLeastsWrong)

/-- 'ephemerislaw1.ArithNewYears': WHATEVER THE INPUT: true; the input reads as it did. -/
def arithNewYearsSpec : ChangeSpec := { name := "arithNewYears", fn := fun _ => fun
  | [d1, d2] => { results := [.lit (.bool true)], args := [d1, d2] }
  | _ => none }
def arithNewYearsRow : OpenClaim := { program := "ytghecclgaaklaaa", sum := "bcf245108ecb80d636e6db371b26e656490144fe396966184aaf5c42030f81f1", func := "ephemeris/ephemerislaw1.ArithNewYears", spec := "arithNewYears", unfollowed := true, recurses := true, apart := false }
def ArithNewYearsSaid : Prop := arithNewYearsRow.holds Try.pinned (OpenSpec.ofChange arithNewYearsSpec)

/-- ITS FALSE NEIGHBOUR: 'it returns false'. Refute it at one input. -/
def arithNewYearsWrong : ChangeSpec := { name := "arithNewYears", fn := fun _ => fun
  | [d1, d2] => { results := [.lit (.bool false)], args := [d1, d2] }
  | _ => none }
def ArithNewYearsWrongFalsely : Prop := arithNewYearsRow.holds Try.pinned (OpenSpec.ofChange arithNewYearsWrong)

/-- 'ephemerislaw1.ArithLeaps': WHATEVER THE INPUT: true; the input reads as it did. -/
def arithLeapsSpec : ChangeSpec := { name := "arithLeaps", fn := fun _ => fun
  | [d1, d2, d3] => { results := [.lit (.bool true)], args := [d1, d2, d3] }
  | _ => none }
def arithLeapsRow : OpenClaim := { program := "ytghecclgaaklaaa", sum := "bcf245108ecb80d636e6db371b26e656490144fe396966184aaf5c42030f81f1", func := "ephemeris/ephemerislaw1.ArithLeaps", spec := "arithLeaps", unfollowed := true, recurses := true, apart := false }
def ArithLeapsSaid : Prop := arithLeapsRow.holds Try.pinned (OpenSpec.ofChange arithLeapsSpec)

/-- ITS FALSE NEIGHBOUR: 'it returns false'. Refute it at one input. -/
def arithLeapsWrong : ChangeSpec := { name := "arithLeaps", fn := fun _ => fun
  | [d1, d2, d3] => { results := [.lit (.bool false)], args := [d1, d2, d3] }
  | _ => none }
def ArithLeapsWrongFalsely : Prop := arithLeapsRow.holds Try.pinned (OpenSpec.ofChange arithLeapsWrong)

/-- 'ephemerislaw1.ArithFromDays': WHATEVER THE INPUT: true; the input reads as it did. -/
def arithFromDaysSpec : ChangeSpec := { name := "arithFromDays", fn := fun _ => fun
  | [d1, d2] => { results := [.lit (.bool true)], args := [d1, d2] }
  | _ => none }
def arithFromDaysRow : OpenClaim := { program := "ytghecclgaaklaaa", sum := "bcf245108ecb80d636e6db371b26e656490144fe396966184aaf5c42030f81f1", func := "ephemeris/ephemerislaw1.ArithFromDays", spec := "arithFromDays", unfollowed := true, recurses := true, apart := false }
def ArithFromDaysSaid : Prop := arithFromDaysRow.holds Try.pinned (OpenSpec.ofChange arithFromDaysSpec)

/-- ITS FALSE NEIGHBOUR: 'it returns false'. Refute it at one input. -/
def arithFromDaysWrong : ChangeSpec := { name := "arithFromDays", fn := fun _ => fun
  | [d1, d2] => { results := [.lit (.bool false)], args := [d1, d2] }
  | _ => none }
def ArithFromDaysWrongFalsely : Prop := arithFromDaysRow.holds Try.pinned (OpenSpec.ofChange arithFromDaysWrong)

/-- 'ephemerislaw1.ArithToDays': WHATEVER THE INPUT: true; the input reads as it did. -/
def arithToDaysSpec : ChangeSpec := { name := "arithToDays", fn := fun _ => fun
  | [d1, d2] => { results := [.lit (.bool true)], args := [d1, d2] }
  | _ => none }
def arithToDaysRow : OpenClaim := { program := "ytghecclgaaklaaa", sum := "bcf245108ecb80d636e6db371b26e656490144fe396966184aaf5c42030f81f1", func := "ephemeris/ephemerislaw1.ArithToDays", spec := "arithToDays", unfollowed := true, recurses := true, apart := false }
def ArithToDaysSaid : Prop := arithToDaysRow.holds Try.pinned (OpenSpec.ofChange arithToDaysSpec)

/-- ITS FALSE NEIGHBOUR: 'it returns false'. Refute it at one input. -/
def arithToDaysWrong : ChangeSpec := { name := "arithToDays", fn := fun _ => fun
  | [d1, d2] => { results := [.lit (.bool false)], args := [d1, d2] }
  | _ => none }
def ArithToDaysWrongFalsely : Prop := arithToDaysRow.holds Try.pinned (OpenSpec.ofChange arithToDaysWrong)

/-- 'ephemerislaw1.CycleNexts': WHATEVER THE INPUT: true; the input reads as it did. -/
def cycleNextsSpec : ChangeSpec := { name := "cycleNexts", fn := fun _ => fun
  | [d1, d2, d3] => { results := [.lit (.bool true)], args := [d1, d2, d3] }
  | _ => none }
def cycleNextsRow : OpenClaim := { program := "ytghecclgaaklaaa", sum := "bcf245108ecb80d636e6db371b26e656490144fe396966184aaf5c42030f81f1", func := "ephemeris/ephemerislaw1.CycleNexts", spec := "cycleNexts", apart := false }
def CycleNextsSaid : Prop := cycleNextsRow.holds Try.pinned (OpenSpec.ofChange cycleNextsSpec)

/-- ITS FALSE NEIGHBOUR: 'it returns false'. Refute it at one input. -/
def cycleNextsWrong : ChangeSpec := { name := "cycleNexts", fn := fun _ => fun
  | [d1, d2, d3] => { results := [.lit (.bool false)], args := [d1, d2, d3] }
  | _ => none }
def CycleNextsWrongFalsely : Prop := cycleNextsRow.holds Try.pinned (OpenSpec.ofChange cycleNextsWrong)

/- THE SECOND FORM. 'bulk': how many values and letters a reading holds, each counted each time it is reached (what is shared counts as often as it is met; a slice's spare places count too). A statement '..UptoSaid' is the law's where the arguments, and the package variables that the reading takes, are together of bulk at most 1048576: NARROWER than '..Said'. Prove '..Said' where nothing that the law and all that it calls make is longer than what came in: it says more and counts as full. Else prove '..UptoSaid'. A law counts once. -/
mutual
def uptoBulk {H : Type} : DataW H → Nat
  | .lit (.string bytes) => bytes.length + 1
  | .lit _ => 1
  | .nil => 1
  | .ptr d => uptoBulk d + 1
  | .slice elems spare => uptoBulkAll elems + uptoBulkAll spare + 1
  | .agg parts => uptoBulkAll parts + 1
  | .iface _ d => uptoBulk d + 1
  | .map entries => uptoBulkEntries entries + 1
  | .held _ => 1
def uptoBulkAll {H : Type} : List (DataW H) → Nat
  | [] => 0
  | d :: r => uptoBulk d + uptoBulkAll r
def uptoBulkEntries {H : Type} : List (Lit × DataW H) → Nat
  | [] => 0
  | x :: r => uptoBulkEntry x + uptoBulkEntries r
def uptoBulkEntry {H : Type} : Lit × DataW H → Nat
  | (.string bytes, d) => bytes.length + uptoBulk d + 1
  | (_, d) => uptoBulk d + 1
 end
def uptoSmall : (H : Type) → List (DataW H) → Bool := fun _ ds => decide (uptoBulkAll ds ≤ 1048576)
def OpenSpec.upto (s : _root_.Go.ChangeSpec) : _root_.Go.OpenSpec := { _root_.Go.OpenSpec.ofChange s with cond := some uptoSmall }

/-- 'ephemerislaw1.LineDays', WHERE WHAT IT READS IS OF BULK AT MOST 1048576: true; the input reads as it did. -/
def lineDaysUptoRow : OpenClaim := { program := "ytghecclgaaklaaa", sum := "bcf245108ecb80d636e6db371b26e656490144fe396966184aaf5c42030f81f1", func := "ephemeris/ephemerislaw1.LineDays", spec := "lineDays", apart := false, narrowed := true }
def LineDaysUptoSaid : Prop := lineDaysUptoRow.holds Try.pinned (OpenSpec.upto lineDaysSpec)

/-- 'ephemerislaw1.LineDates', WHERE WHAT IT READS IS OF BULK AT MOST 1048576: true; the input reads as it did. -/
def lineDatesUptoRow : OpenClaim := { program := "ytghecclgaaklaaa", sum := "bcf245108ecb80d636e6db371b26e656490144fe396966184aaf5c42030f81f1", func := "ephemeris/ephemerislaw1.LineDates", spec := "lineDates", apart := false, narrowed := true }
def LineDatesUptoSaid : Prop := lineDatesUptoRow.holds Try.pinned (OpenSpec.upto lineDatesSpec)

/-- 'ephemerislaw1.CompileChecks', WHERE WHAT IT READS IS OF BULK AT MOST 1048576: true; the input reads as it did. -/
def compileChecksUptoRow : OpenClaim := { program := "ytghecclgaaklaaa", sum := "bcf245108ecb80d636e6db371b26e656490144fe396966184aaf5c42030f81f1", func := "ephemeris/ephemerislaw1.CompileChecks", spec := "compileChecks", unfollowed := true, recurses := true, apart := false, narrowed := true }
def CompileChecksUptoSaid : Prop := compileChecksUptoRow.holds Try.pinned (OpenSpec.upto compileChecksSpec)

/-- 'ephemerislaw1.CycleOfs', WHERE WHAT IT READS IS OF BULK AT MOST 1048576: true; the input reads as it did. -/
def cycleOfsUptoRow : OpenClaim := { program := "ytghecclgaaklaaa", sum := "bcf245108ecb80d636e6db371b26e656490144fe396966184aaf5c42030f81f1", func := "ephemeris/ephemerislaw1.CycleOfs", spec := "cycleOfs", apart := false, narrowed := true }
def CycleOfsUptoSaid : Prop := cycleOfsUptoRow.holds Try.pinned (OpenSpec.upto cycleOfsSpec)

/-- 'ephemerislaw1.ObservedDates', WHERE WHAT IT READS IS OF BULK AT MOST 1048576: true; the input reads as it did. -/
def observedDatesUptoRow : OpenClaim := { program := "ytghecclgaaklaaa", sum := "bcf245108ecb80d636e6db371b26e656490144fe396966184aaf5c42030f81f1", func := "ephemeris/ephemerislaw1.ObservedDates", spec := "observedDates", apart := false, narrowed := true }
def ObservedDatesUptoSaid : Prop := observedDatesUptoRow.holds Try.pinned (OpenSpec.upto observedDatesSpec)

/-- 'ephemerislaw1.CompileTotals', WHERE WHAT IT READS IS OF BULK AT MOST 1048576: true; the input reads as it did. -/
def compileTotalsUptoRow : OpenClaim := { program := "ytghecclgaaklaaa", sum := "bcf245108ecb80d636e6db371b26e656490144fe396966184aaf5c42030f81f1", func := "ephemeris/ephemerislaw1.CompileTotals", spec := "compileTotals", unfollowed := true, recurses := true, apart := false, narrowed := true }
def CompileTotalsUptoSaid : Prop := compileTotalsUptoRow.holds Try.pinned (OpenSpec.upto compileTotalsSpec)

/-- 'ephemerislaw1.LunisolarChecks', WHERE WHAT IT READS IS OF BULK AT MOST 1048576: true; the input reads as it did. -/
def lunisolarChecksUptoRow : OpenClaim := { program := "ytghecclgaaklaaa", sum := "bcf245108ecb80d636e6db371b26e656490144fe396966184aaf5c42030f81f1", func := "ephemeris/ephemerislaw1.LunisolarChecks", spec := "lunisolarChecks", apart := false, narrowed := true }
def LunisolarChecksUptoSaid : Prop := lunisolarChecksUptoRow.holds Try.pinned (OpenSpec.upto lunisolarChecksSpec)

/-- 'ephemerislaw1.ObservedExtends', WHERE WHAT IT READS IS OF BULK AT MOST 1048576: true; the input reads as it did. -/
def observedExtendsUptoRow : OpenClaim := { program := "ytghecclgaaklaaa", sum := "bcf245108ecb80d636e6db371b26e656490144fe396966184aaf5c42030f81f1", func := "ephemeris/ephemerislaw1.ObservedExtends", spec := "observedExtends", apart := false, narrowed := true }
def ObservedExtendsUptoSaid : Prop := observedExtendsUptoRow.holds Try.pinned (OpenSpec.upto observedExtendsSpec)

/-- 'ephemerislaw1.RuleChecks', WHERE WHAT IT READS IS OF BULK AT MOST 1048576: true; the input reads as it did. -/
def ruleChecksUptoRow : OpenClaim := { program := "ytghecclgaaklaaa", sum := "bcf245108ecb80d636e6db371b26e656490144fe396966184aaf5c42030f81f1", func := "ephemeris/ephemerislaw1.RuleChecks", spec := "ruleChecks", unfollowed := true, recurses := true, loops := true, apart := false, narrowed := true }
def RuleChecksUptoSaid : Prop := ruleChecksUptoRow.holds Try.pinned (OpenSpec.upto ruleChecksSpec)

/-- 'ephemerislaw1.RuleEvals', WHERE WHAT IT READS IS OF BULK AT MOST 1048576: true; the input reads as it did. -/
def ruleEvalsUptoRow : OpenClaim := { program := "ytghecclgaaklaaa", sum := "bcf245108ecb80d636e6db371b26e656490144fe396966184aaf5c42030f81f1", func := "ephemeris/ephemerislaw1.RuleEvals", spec := "ruleEvals", recurses := true, loops := true, apart := false, narrowed := true }
def RuleEvalsUptoSaid : Prop := ruleEvalsUptoRow.holds Try.pinned (OpenSpec.upto ruleEvalsSpec)

/-- 'ephemerislaw1.CompileLeasts', WHERE WHAT IT READS IS OF BULK AT MOST 1048576: true; the input reads as it did. -/
def compileLeastsUptoRow : OpenClaim := { program := "ytghecclgaaklaaa", sum := "bcf245108ecb80d636e6db371b26e656490144fe396966184aaf5c42030f81f1", func := "ephemeris/ephemerislaw1.CompileLeasts", spec := "compileLeasts", unfollowed := true, recurses := true, apart := false, narrowed := true }
def CompileLeastsUptoSaid : Prop := compileLeastsUptoRow.holds Try.pinned (OpenSpec.upto compileLeastsSpec)

/-- 'ephemerislaw1.ArithNewYears', WHERE WHAT IT READS IS OF BULK AT MOST 1048576: true; the input reads as it did. -/
def arithNewYearsUptoRow : OpenClaim := { program := "ytghecclgaaklaaa", sum := "bcf245108ecb80d636e6db371b26e656490144fe396966184aaf5c42030f81f1", func := "ephemeris/ephemerislaw1.ArithNewYears", spec := "arithNewYears", unfollowed := true, recurses := true, apart := false, narrowed := true }
def ArithNewYearsUptoSaid : Prop := arithNewYearsUptoRow.holds Try.pinned (OpenSpec.upto arithNewYearsSpec)

/-- 'ephemerislaw1.ArithLeaps', WHERE WHAT IT READS IS OF BULK AT MOST 1048576: true; the input reads as it did. -/
def arithLeapsUptoRow : OpenClaim := { program := "ytghecclgaaklaaa", sum := "bcf245108ecb80d636e6db371b26e656490144fe396966184aaf5c42030f81f1", func := "ephemeris/ephemerislaw1.ArithLeaps", spec := "arithLeaps", unfollowed := true, recurses := true, apart := false, narrowed := true }
def ArithLeapsUptoSaid : Prop := arithLeapsUptoRow.holds Try.pinned (OpenSpec.upto arithLeapsSpec)

/-- 'ephemerislaw1.ArithFromDays', WHERE WHAT IT READS IS OF BULK AT MOST 1048576: true; the input reads as it did. -/
def arithFromDaysUptoRow : OpenClaim := { program := "ytghecclgaaklaaa", sum := "bcf245108ecb80d636e6db371b26e656490144fe396966184aaf5c42030f81f1", func := "ephemeris/ephemerislaw1.ArithFromDays", spec := "arithFromDays", unfollowed := true, recurses := true, apart := false, narrowed := true }
def ArithFromDaysUptoSaid : Prop := arithFromDaysUptoRow.holds Try.pinned (OpenSpec.upto arithFromDaysSpec)

/-- 'ephemerislaw1.ArithToDays', WHERE WHAT IT READS IS OF BULK AT MOST 1048576: true; the input reads as it did. -/
def arithToDaysUptoRow : OpenClaim := { program := "ytghecclgaaklaaa", sum := "bcf245108ecb80d636e6db371b26e656490144fe396966184aaf5c42030f81f1", func := "ephemeris/ephemerislaw1.ArithToDays", spec := "arithToDays", unfollowed := true, recurses := true, apart := false, narrowed := true }
def ArithToDaysUptoSaid : Prop := arithToDaysUptoRow.holds Try.pinned (OpenSpec.upto arithToDaysSpec)

/-- 'ephemerislaw1.CycleNexts', WHERE WHAT IT READS IS OF BULK AT MOST 1048576: true; the input reads as it did. -/
def cycleNextsUptoRow : OpenClaim := { program := "ytghecclgaaklaaa", sum := "bcf245108ecb80d636e6db371b26e656490144fe396966184aaf5c42030f81f1", func := "ephemeris/ephemerislaw1.CycleNexts", spec := "cycleNexts", apart := false, narrowed := true }
def CycleNextsUptoSaid : Prop := cycleNextsUptoRow.holds Try.pinned (OpenSpec.upto cycleNextsSpec)

end Rows
end Go.Proofs.Ytghecclgaaklaaa
