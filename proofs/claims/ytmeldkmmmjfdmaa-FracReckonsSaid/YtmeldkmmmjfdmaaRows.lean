/-
  NARROWER THAN 'FOR EVERY INPUT', by the rows' own cells (each row's printed sentence says how): CompileCompiles: loops.
  DERIVED. THE GIVEN ROWS OF THIS SEAT. 13 by the template 'for every input the law returns true; each argument reads behind the call as it read before'; 0 by the template 'total and deterministic' (their statements: YtmeldkmmmjfdmaaTotals.lean).
  GIVEN WITH THE SEED: the statements are not yours to turn. If you find one false, say at which input.
  Laid BY PROGRAM, IN A SANDBOX (cutbox-rows.mjs): the forced cells as the released guide's own fill.sh prints them over the translation 42aa4e1ee4124c01… (all of the seat's roots in one cut). By AI agents, Wed Nov 11 2026. No macro, syntax, notation, axiom, sorry.
-/
import Derived.Test.YtmeldkmmmjfdmaaChecked
import GoSem.Claim
import GoSem.ClaimJoined
import GoSem.ClaimMapViews
import Derived.JoinedTies
import Derived.KernelRfl
namespace Go.Proofs.Ytmeldkmmmjfdmaa
/- THE CELL 'sum', in the pinned program and in every row, IS THE sha256 OF THE DUMP (.gsa) THAT YtmeldkmmmjfdmaaProg.lean LOADS. Nothing in Lean hashes anything: it is a label: what it is worth is what the hold of that sum in a sandbox is worth. -/
noncomputable def Try.pinned : Pinned := { name := "ytmeldkmmmjfdmaa", sum := "42aa4e1ee4124c01d164cebcebe459d1890bc6b03e0c1216a7f700bc89ff938f", checked := Try.checked }
namespace Rows
def none {H : Type} : Left H := { results := [], args := [] }

/-- 'ephemerislaw1.FracChecks': WHATEVER THE INPUT: true; the input reads as it did. -/
def fracChecksSpec : ChangeSpec := { name := "fracChecks", fn := fun _ => fun
  | [d1, d2, d3] => { results := [.lit (.bool true)], args := [d1, d2, d3] }
  | _ => none }
def fracChecksRow : OpenClaim := { program := "ytmeldkmmmjfdmaa", sum := "42aa4e1ee4124c01d164cebcebe459d1890bc6b03e0c1216a7f700bc89ff938f", func := "ephemeris/ephemerislaw1.FracChecks", spec := "fracChecks", apart := false }
def FracChecksSaid : Prop := fracChecksRow.holds Try.pinned (OpenSpec.ofChange fracChecksSpec)

/-- ITS FALSE NEIGHBOUR: 'it returns false'. Refute it at one input. -/
def fracChecksWrong : ChangeSpec := { name := "fracChecks", fn := fun _ => fun
  | [d1, d2, d3] => { results := [.lit (.bool false)], args := [d1, d2, d3] }
  | _ => none }
def FracChecksWrongFalsely : Prop := fracChecksRow.holds Try.pinned (OpenSpec.ofChange fracChecksWrong)

/-- 'ephemerislaw1.FracCompares': WHATEVER THE INPUT: true; the input reads as it did. -/
def fracComparesSpec : ChangeSpec := { name := "fracCompares", fn := fun _ => fun
  | [d1, d2] => { results := [.lit (.bool true)], args := [d1, d2] }
  | _ => none }
def fracComparesRow : OpenClaim := { program := "ytmeldkmmmjfdmaa", sum := "42aa4e1ee4124c01d164cebcebe459d1890bc6b03e0c1216a7f700bc89ff938f", func := "ephemeris/ephemerislaw1.FracCompares", spec := "fracCompares", apart := false }
def FracComparesSaid : Prop := fracComparesRow.holds Try.pinned (OpenSpec.ofChange fracComparesSpec)

/-- ITS FALSE NEIGHBOUR: 'it returns false'. Refute it at one input. -/
def fracComparesWrong : ChangeSpec := { name := "fracCompares", fn := fun _ => fun
  | [d1, d2] => { results := [.lit (.bool false)], args := [d1, d2] }
  | _ => none }
def FracComparesWrongFalsely : Prop := fracComparesRow.holds Try.pinned (OpenSpec.ofChange fracComparesWrong)

/-- 'ephemerislaw1.FracReckons': WHATEVER THE INPUT: true; the input reads as it did. -/
def fracReckonsSpec : ChangeSpec := { name := "fracReckons", fn := fun _ => fun
  | [d1, d2] => { results := [.lit (.bool true)], args := [d1, d2] }
  | _ => none }
def fracReckonsRow : OpenClaim := { program := "ytmeldkmmmjfdmaa", sum := "42aa4e1ee4124c01d164cebcebe459d1890bc6b03e0c1216a7f700bc89ff938f", func := "ephemeris/ephemerislaw1.FracReckons", spec := "fracReckons", apart := false }
def FracReckonsSaid : Prop := fracReckonsRow.holds Try.pinned (OpenSpec.ofChange fracReckonsSpec)

/-- ITS FALSE NEIGHBOUR: 'it returns false'. Refute it at one input. -/
def fracReckonsWrong : ChangeSpec := { name := "fracReckons", fn := fun _ => fun
  | [d1, d2] => { results := [.lit (.bool false)], args := [d1, d2] }
  | _ => none }
def FracReckonsWrongFalsely : Prop := fracReckonsRow.holds Try.pinned (OpenSpec.ofChange fracReckonsWrong)

/-- 'ephemerislaw1.FracNears': WHATEVER THE INPUT: true; the input reads as it did. -/
def fracNearsSpec : ChangeSpec := { name := "fracNears", fn := fun _ => fun
  | [d1, d2] => { results := [.lit (.bool true)], args := [d1, d2] }
  | _ => none }
def fracNearsRow : OpenClaim := { program := "ytmeldkmmmjfdmaa", sum := "42aa4e1ee4124c01d164cebcebe459d1890bc6b03e0c1216a7f700bc89ff938f", func := "ephemeris/ephemerislaw1.FracNears", spec := "fracNears", apart := false }
def FracNearsSaid : Prop := fracNearsRow.holds Try.pinned (OpenSpec.ofChange fracNearsSpec)

/-- ITS FALSE NEIGHBOUR: 'it returns false'. Refute it at one input. -/
def fracNearsWrong : ChangeSpec := { name := "fracNears", fn := fun _ => fun
  | [d1, d2] => { results := [.lit (.bool false)], args := [d1, d2] }
  | _ => none }
def FracNearsWrongFalsely : Prop := fracNearsRow.holds Try.pinned (OpenSpec.ofChange fracNearsWrong)

/-- 'ephemerislaw1.CycleLists': WHATEVER THE INPUT: true; the input reads as it did. -/
def cycleListsSpec : ChangeSpec := { name := "cycleLists", fn := fun _ => fun
  | [d1, d2, d3, d4] => { results := [.lit (.bool true)], args := [d1, d2, d3, d4] }
  | _ => none }
def cycleListsRow : OpenClaim := { program := "ytmeldkmmmjfdmaa", sum := "42aa4e1ee4124c01d164cebcebe459d1890bc6b03e0c1216a7f700bc89ff938f", func := "ephemeris/ephemerislaw1.CycleLists", spec := "cycleLists", apart := false }
def CycleListsSaid : Prop := cycleListsRow.holds Try.pinned (OpenSpec.ofChange cycleListsSpec)

/-- ITS FALSE NEIGHBOUR: 'it returns false'. Refute it at one input. -/
def cycleListsWrong : ChangeSpec := { name := "cycleLists", fn := fun _ => fun
  | [d1, d2, d3, d4] => { results := [.lit (.bool false)], args := [d1, d2, d3, d4] }
  | _ => none }
def CycleListsWrongFalsely : Prop := cycleListsRow.holds Try.pinned (OpenSpec.ofChange cycleListsWrong)

/-- 'ephemerislaw1.LunisolarFromDays': WHATEVER THE INPUT: true; the input reads as it did. -/
def lunisolarFromDaysSpec : ChangeSpec := { name := "lunisolarFromDays", fn := fun _ => fun
  | [d1, d2] => { results := [.lit (.bool true)], args := [d1, d2] }
  | _ => none }
def lunisolarFromDaysRow : OpenClaim := { program := "ytmeldkmmmjfdmaa", sum := "42aa4e1ee4124c01d164cebcebe459d1890bc6b03e0c1216a7f700bc89ff938f", func := "ephemeris/ephemerislaw1.LunisolarFromDays", spec := "lunisolarFromDays", unfollowed := true, recurses := true, apart := false }
def LunisolarFromDaysSaid : Prop := lunisolarFromDaysRow.holds Try.pinned (OpenSpec.ofChange lunisolarFromDaysSpec)

/-- ITS FALSE NEIGHBOUR: 'it returns false'. Refute it at one input. -/
def lunisolarFromDaysWrong : ChangeSpec := { name := "lunisolarFromDays", fn := fun _ => fun
  | [d1, d2] => { results := [.lit (.bool false)], args := [d1, d2] }
  | _ => none }
def LunisolarFromDaysWrongFalsely : Prop := lunisolarFromDaysRow.holds Try.pinned (OpenSpec.ofChange lunisolarFromDaysWrong)

/-- 'ephemerislaw1.LunisolarBegins': WHATEVER THE INPUT: true; the input reads as it did. -/
def lunisolarBeginsSpec : ChangeSpec := { name := "lunisolarBegins", fn := fun _ => fun
  | [d1, d2, d3] => { results := [.lit (.bool true)], args := [d1, d2, d3] }
  | _ => none }
def lunisolarBeginsRow : OpenClaim := { program := "ytmeldkmmmjfdmaa", sum := "42aa4e1ee4124c01d164cebcebe459d1890bc6b03e0c1216a7f700bc89ff938f", func := "ephemeris/ephemerislaw1.LunisolarBegins", spec := "lunisolarBegins", unfollowed := true, recurses := true, apart := false }
def LunisolarBeginsSaid : Prop := lunisolarBeginsRow.holds Try.pinned (OpenSpec.ofChange lunisolarBeginsSpec)

/-- ITS FALSE NEIGHBOUR: 'it returns false'. Refute it at one input. -/
def lunisolarBeginsWrong : ChangeSpec := { name := "lunisolarBegins", fn := fun _ => fun
  | [d1, d2, d3] => { results := [.lit (.bool false)], args := [d1, d2, d3] }
  | _ => none }
def LunisolarBeginsWrongFalsely : Prop := lunisolarBeginsRow.holds Try.pinned (OpenSpec.ofChange lunisolarBeginsWrong)

/-- 'ephemerislaw1.LunisolarToDays': WHATEVER THE INPUT: true; the input reads as it did. -/
def lunisolarToDaysSpec : ChangeSpec := { name := "lunisolarToDays", fn := fun _ => fun
  | [d1, d2] => { results := [.lit (.bool true)], args := [d1, d2] }
  | _ => none }
def lunisolarToDaysRow : OpenClaim := { program := "ytmeldkmmmjfdmaa", sum := "42aa4e1ee4124c01d164cebcebe459d1890bc6b03e0c1216a7f700bc89ff938f", func := "ephemeris/ephemerislaw1.LunisolarToDays", spec := "lunisolarToDays", unfollowed := true, recurses := true, apart := false }
def LunisolarToDaysSaid : Prop := lunisolarToDaysRow.holds Try.pinned (OpenSpec.ofChange lunisolarToDaysSpec)

/-- ITS FALSE NEIGHBOUR: 'it returns false'. Refute it at one input. -/
def lunisolarToDaysWrong : ChangeSpec := { name := "lunisolarToDays", fn := fun _ => fun
  | [d1, d2] => { results := [.lit (.bool false)], args := [d1, d2] }
  | _ => none }
def LunisolarToDaysWrongFalsely : Prop := lunisolarToDaysRow.holds Try.pinned (OpenSpec.ofChange lunisolarToDaysWrong)

/-- 'ephemerislaw1.CompileCompiles': WHATEVER THE INPUT: true; the input reads as it did. -/
def compileCompilesSpec : ChangeSpec := { name := "compileCompiles", fn := fun _ => fun
  | [d] => { results := [.lit (.bool true)], args := [d] }
  | _ => none }
def compileCompilesRow : OpenClaim := { program := "ytmeldkmmmjfdmaa", sum := "42aa4e1ee4124c01d164cebcebe459d1890bc6b03e0c1216a7f700bc89ff938f", func := "ephemeris/ephemerislaw1.CompileCompiles", spec := "compileCompiles", unfollowed := true, recurses := true, loops := true, apart := false }
def CompileCompilesSaid : Prop := compileCompilesRow.holds Try.pinned (OpenSpec.ofChange compileCompilesSpec)

/-- ITS FALSE NEIGHBOUR: 'it returns false'. Refute it at one input. -/
def compileCompilesWrong : ChangeSpec := { name := "compileCompiles", fn := fun _ => fun
  | [d] => { results := [.lit (.bool false)], args := [d] }
  | _ => none }
def CompileCompilesWrongFalsely : Prop := compileCompilesRow.holds Try.pinned (OpenSpec.ofChange compileCompilesWrong)

/-- 'ephemerislaw1.ObservedOfs': WHATEVER THE INPUT: true; the input reads as it did. -/
def observedOfsSpec : ChangeSpec := { name := "observedOfs", fn := fun _ => fun
  | [d1, d2, d3] => { results := [.lit (.bool true)], args := [d1, d2, d3] }
  | _ => none }
def observedOfsRow : OpenClaim := { program := "ytmeldkmmmjfdmaa", sum := "42aa4e1ee4124c01d164cebcebe459d1890bc6b03e0c1216a7f700bc89ff938f", func := "ephemeris/ephemerislaw1.ObservedOfs", spec := "observedOfs", unfollowed := true, recurses := true, apart := false }
def ObservedOfsSaid : Prop := observedOfsRow.holds Try.pinned (OpenSpec.ofChange observedOfsSpec)

/-- ITS FALSE NEIGHBOUR: 'it returns false'. Refute it at one input. -/
def observedOfsWrong : ChangeSpec := { name := "observedOfs", fn := fun _ => fun
  | [d1, d2, d3] => { results := [.lit (.bool false)], args := [d1, d2, d3] }
  | _ => none }
def ObservedOfsWrongFalsely : Prop := observedOfsRow.holds Try.pinned (OpenSpec.ofChange observedOfsWrong)

/-- 'ephemerislaw1.ArithLaters': WHATEVER THE INPUT: true; the input reads as it did. -/
def arithLatersSpec : ChangeSpec := { name := "arithLaters", fn := fun _ => fun
  | [d1, d2, d3, d4] => { results := [.lit (.bool true)], args := [d1, d2, d3, d4] }
  | _ => none }
def arithLatersRow : OpenClaim := { program := "ytmeldkmmmjfdmaa", sum := "42aa4e1ee4124c01d164cebcebe459d1890bc6b03e0c1216a7f700bc89ff938f", func := "ephemeris/ephemerislaw1.ArithLaters", spec := "arithLaters", unfollowed := true, recurses := true, apart := false }
def ArithLatersSaid : Prop := arithLatersRow.holds Try.pinned (OpenSpec.ofChange arithLatersSpec)

/-- ITS FALSE NEIGHBOUR: 'it returns false'. Refute it at one input. -/
def arithLatersWrong : ChangeSpec := { name := "arithLaters", fn := fun _ => fun
  | [d1, d2, d3, d4] => { results := [.lit (.bool false)], args := [d1, d2, d3, d4] }
  | _ => none }
def ArithLatersWrongFalsely : Prop := arithLatersRow.holds Try.pinned (OpenSpec.ofChange arithLatersWrong)

/-- 'ephemerislaw1.RecurLists': WHATEVER THE INPUT: true; the input reads as it did. -/
def recurListsSpec : ChangeSpec := { name := "recurLists", fn := fun _ => fun
  | [d1, d2, d3] => { results := [.lit (.bool true)], args := [d1, d2, d3] }
  | _ => none }
def recurListsRow : OpenClaim := { program := "ytmeldkmmmjfdmaa", sum := "42aa4e1ee4124c01d164cebcebe459d1890bc6b03e0c1216a7f700bc89ff938f", func := "ephemeris/ephemerislaw1.RecurLists", spec := "recurLists", unfollowed := true, recurses := true, apart := false }
def RecurListsSaid : Prop := recurListsRow.holds Try.pinned (OpenSpec.ofChange recurListsSpec)

/-- ITS FALSE NEIGHBOUR: 'it returns false'. Refute it at one input. -/
def recurListsWrong : ChangeSpec := { name := "recurLists", fn := fun _ => fun
  | [d1, d2, d3] => { results := [.lit (.bool false)], args := [d1, d2, d3] }
  | _ => none }
def RecurListsWrongFalsely : Prop := recurListsRow.holds Try.pinned (OpenSpec.ofChange recurListsWrong)

/-- 'ephemerislaw1.RecurDiffs': WHATEVER THE INPUT: true; the input reads as it did. -/
def recurDiffsSpec : ChangeSpec := { name := "recurDiffs", fn := fun _ => fun
  | [d1, d2, d3, d4] => { results := [.lit (.bool true)], args := [d1, d2, d3, d4] }
  | _ => none }
def recurDiffsRow : OpenClaim := { program := "ytmeldkmmmjfdmaa", sum := "42aa4e1ee4124c01d164cebcebe459d1890bc6b03e0c1216a7f700bc89ff938f", func := "ephemeris/ephemerislaw1.RecurDiffs", spec := "recurDiffs", unfollowed := true, recurses := true, apart := false }
def RecurDiffsSaid : Prop := recurDiffsRow.holds Try.pinned (OpenSpec.ofChange recurDiffsSpec)

/-- ITS FALSE NEIGHBOUR: 'it returns false'. Refute it at one input. -/
def recurDiffsWrong : ChangeSpec := { name := "recurDiffs", fn := fun _ => fun
  | [d1, d2, d3, d4] => { results := [.lit (.bool false)], args := [d1, d2, d3, d4] }
  | _ => none }
def RecurDiffsWrongFalsely : Prop := recurDiffsRow.holds Try.pinned (OpenSpec.ofChange recurDiffsWrong)

/- THE SECOND FORM. 'bulk': how many values and letters a reading holds, each counted each time it is reached (what is shared counts as often as it is met; a slice's spare places count too). A statement '..UptoSaid' is the law's where the arguments, and the package variables that the reading takes, are together of bulk at most 1048576: NARROWER than '..Said'. Prove '..Said' where nothing that the law and all that it calls make is longer than what came in: it says more and counts as full. Else prove '..UptoSaid'. A law counts once. -/
mutual
def uptoBulk {H : Type} : DataW H → Nat
  | .lit (.string bytes) => bytes.length + 1
  | .lit _ => 1
  | .nil => 1
  | .ptr d => uptoBulk d + 1
  | .slice elems spare => uptoBulkAll elems + uptoBulkAll spare + 1
  | .agg parts => uptoBulkAll parts + 1
  | .iface _ d => uptoBulk d + 1
  | .map entries => uptoBulkEntries entries + 1
  | .held _ => 1
def uptoBulkAll {H : Type} : List (DataW H) → Nat
  | [] => 0
  | d :: r => uptoBulk d + uptoBulkAll r
def uptoBulkEntries {H : Type} : List (Lit × DataW H) → Nat
  | [] => 0
  | x :: r => uptoBulkEntry x + uptoBulkEntries r
def uptoBulkEntry {H : Type} : Lit × DataW H → Nat
  | (.string bytes, d) => bytes.length + uptoBulk d + 1
  | (_, d) => uptoBulk d + 1
 end
def uptoSmall : (H : Type) → List (DataW H) → Bool := fun _ ds => decide (uptoBulkAll ds ≤ 1048576)
def OpenSpec.upto (s : _root_.Go.ChangeSpec) : _root_.Go.OpenSpec := { _root_.Go.OpenSpec.ofChange s with cond := some uptoSmall }

/-- 'ephemerislaw1.FracChecks', WHERE WHAT IT READS IS OF BULK AT MOST 1048576: true; the input reads as it did. -/
def fracChecksUptoRow : OpenClaim := { program := "ytmeldkmmmjfdmaa", sum := "42aa4e1ee4124c01d164cebcebe459d1890bc6b03e0c1216a7f700bc89ff938f", func := "ephemeris/ephemerislaw1.FracChecks", spec := "fracChecks", apart := false, narrowed := true }
def FracChecksUptoSaid : Prop := fracChecksUptoRow.holds Try.pinned (OpenSpec.upto fracChecksSpec)

/-- 'ephemerislaw1.FracCompares', WHERE WHAT IT READS IS OF BULK AT MOST 1048576: true; the input reads as it did. -/
def fracComparesUptoRow : OpenClaim := { program := "ytmeldkmmmjfdmaa", sum := "42aa4e1ee4124c01d164cebcebe459d1890bc6b03e0c1216a7f700bc89ff938f", func := "ephemeris/ephemerislaw1.FracCompares", spec := "fracCompares", apart := false, narrowed := true }
def FracComparesUptoSaid : Prop := fracComparesUptoRow.holds Try.pinned (OpenSpec.upto fracComparesSpec)

/-- 'ephemerislaw1.FracReckons', WHERE WHAT IT READS IS OF BULK AT MOST 1048576: true; the input reads as it did. -/
def fracReckonsUptoRow : OpenClaim := { program := "ytmeldkmmmjfdmaa", sum := "42aa4e1ee4124c01d164cebcebe459d1890bc6b03e0c1216a7f700bc89ff938f", func := "ephemeris/ephemerislaw1.FracReckons", spec := "fracReckons", apart := false, narrowed := true }
def FracReckonsUptoSaid : Prop := fracReckonsUptoRow.holds Try.pinned (OpenSpec.upto fracReckonsSpec)

/-- 'ephemerislaw1.FracNears', WHERE WHAT IT READS IS OF BULK AT MOST 1048576: true; the input reads as it did. -/
def fracNearsUptoRow : OpenClaim := { program := "ytmeldkmmmjfdmaa", sum := "42aa4e1ee4124c01d164cebcebe459d1890bc6b03e0c1216a7f700bc89ff938f", func := "ephemeris/ephemerislaw1.FracNears", spec := "fracNears", apart := false, narrowed := true }
def FracNearsUptoSaid : Prop := fracNearsUptoRow.holds Try.pinned (OpenSpec.upto fracNearsSpec)

/-- 'ephemerislaw1.CycleLists', WHERE WHAT IT READS IS OF BULK AT MOST 1048576: true; the input reads as it did. -/
def cycleListsUptoRow : OpenClaim := { program := "ytmeldkmmmjfdmaa", sum := "42aa4e1ee4124c01d164cebcebe459d1890bc6b03e0c1216a7f700bc89ff938f", func := "ephemeris/ephemerislaw1.CycleLists", spec := "cycleLists", apart := false, narrowed := true }
def CycleListsUptoSaid : Prop := cycleListsUptoRow.holds Try.pinned (OpenSpec.upto cycleListsSpec)

/-- 'ephemerislaw1.LunisolarFromDays', WHERE WHAT IT READS IS OF BULK AT MOST 1048576: true; the input reads as it did. -/
def lunisolarFromDaysUptoRow : OpenClaim := { program := "ytmeldkmmmjfdmaa", sum := "42aa4e1ee4124c01d164cebcebe459d1890bc6b03e0c1216a7f700bc89ff938f", func := "ephemeris/ephemerislaw1.LunisolarFromDays", spec := "lunisolarFromDays", unfollowed := true, recurses := true, apart := false, narrowed := true }
def LunisolarFromDaysUptoSaid : Prop := lunisolarFromDaysUptoRow.holds Try.pinned (OpenSpec.upto lunisolarFromDaysSpec)

/-- 'ephemerislaw1.LunisolarBegins', WHERE WHAT IT READS IS OF BULK AT MOST 1048576: true; the input reads as it did. -/
def lunisolarBeginsUptoRow : OpenClaim := { program := "ytmeldkmmmjfdmaa", sum := "42aa4e1ee4124c01d164cebcebe459d1890bc6b03e0c1216a7f700bc89ff938f", func := "ephemeris/ephemerislaw1.LunisolarBegins", spec := "lunisolarBegins", unfollowed := true, recurses := true, apart := false, narrowed := true }
def LunisolarBeginsUptoSaid : Prop := lunisolarBeginsUptoRow.holds Try.pinned (OpenSpec.upto lunisolarBeginsSpec)

/-- 'ephemerislaw1.LunisolarToDays', WHERE WHAT IT READS IS OF BULK AT MOST 1048576: true; the input reads as it did. -/
def lunisolarToDaysUptoRow : OpenClaim := { program := "ytmeldkmmmjfdmaa", sum := "42aa4e1ee4124c01d164cebcebe459d1890bc6b03e0c1216a7f700bc89ff938f", func := "ephemeris/ephemerislaw1.LunisolarToDays", spec := "lunisolarToDays", unfollowed := true, recurses := true, apart := false, narrowed := true }
def LunisolarToDaysUptoSaid : Prop := lunisolarToDaysUptoRow.holds Try.pinned (OpenSpec.upto lunisolarToDaysSpec)

/-- 'ephemerislaw1.CompileCompiles', WHERE WHAT IT READS IS OF BULK AT MOST 1048576: true; the input reads as it did. -/
def compileCompilesUptoRow : OpenClaim := { program := "ytmeldkmmmjfdmaa", sum := "42aa4e1ee4124c01d164cebcebe459d1890bc6b03e0c1216a7f700bc89ff938f", func := "ephemeris/ephemerislaw1.CompileCompiles", spec := "compileCompiles", unfollowed := true, recurses := true, loops := true, apart := false, narrowed := true }
def CompileCompilesUptoSaid : Prop := compileCompilesUptoRow.holds Try.pinned (OpenSpec.upto compileCompilesSpec)

/-- 'ephemerislaw1.ObservedOfs', WHERE WHAT IT READS IS OF BULK AT MOST 1048576: true; the input reads as it did. -/
def observedOfsUptoRow : OpenClaim := { program := "ytmeldkmmmjfdmaa", sum := "42aa4e1ee4124c01d164cebcebe459d1890bc6b03e0c1216a7f700bc89ff938f", func := "ephemeris/ephemerislaw1.ObservedOfs", spec := "observedOfs", unfollowed := true, recurses := true, apart := false, narrowed := true }
def ObservedOfsUptoSaid : Prop := observedOfsUptoRow.holds Try.pinned (OpenSpec.upto observedOfsSpec)

/-- 'ephemerislaw1.ArithLaters', WHERE WHAT IT READS IS OF BULK AT MOST 1048576: true; the input reads as it did. -/
def arithLatersUptoRow : OpenClaim := { program := "ytmeldkmmmjfdmaa", sum := "42aa4e1ee4124c01d164cebcebe459d1890bc6b03e0c1216a7f700bc89ff938f", func := "ephemeris/ephemerislaw1.ArithLaters", spec := "arithLaters", unfollowed := true, recurses := true, apart := false, narrowed := true }
def ArithLatersUptoSaid : Prop := arithLatersUptoRow.holds Try.pinned (OpenSpec.upto arithLatersSpec)

/-- 'ephemerislaw1.RecurLists', WHERE WHAT IT READS IS OF BULK AT MOST 1048576: true; the input reads as it did. -/
def recurListsUptoRow : OpenClaim := { program := "ytmeldkmmmjfdmaa", sum := "42aa4e1ee4124c01d164cebcebe459d1890bc6b03e0c1216a7f700bc89ff938f", func := "ephemeris/ephemerislaw1.RecurLists", spec := "recurLists", unfollowed := true, recurses := true, apart := false, narrowed := true }
def RecurListsUptoSaid : Prop := recurListsUptoRow.holds Try.pinned (OpenSpec.upto recurListsSpec)

/-- 'ephemerislaw1.RecurDiffs', WHERE WHAT IT READS IS OF BULK AT MOST 1048576: true; the input reads as it did. -/
def recurDiffsUptoRow : OpenClaim := { program := "ytmeldkmmmjfdmaa", sum := "42aa4e1ee4124c01d164cebcebe459d1890bc6b03e0c1216a7f700bc89ff938f", func := "ephemeris/ephemerislaw1.RecurDiffs", spec := "recurDiffs", unfollowed := true, recurses := true, apart := false, narrowed := true }
def RecurDiffsUptoSaid : Prop := recurDiffsUptoRow.holds Try.pinned (OpenSpec.upto recurDiffsSpec)

end Rows
end Go.Proofs.Ytmeldkmmmjfdmaa
