/-
  NARROWER THAN 'FOR EVERY INPUT', by the rows' own cells (each row's printed sentence says how): CompileCompiles: loops · RuleChecks: loops · RuleEvals: loops.
  DERIVED. THE GIVEN ROWS OF THIS SEAT. 8 by the template 'for every input the law returns true; each argument reads behind the call as it read before'; 0 by the template 'total and deterministic' (their statements: YtjekdceicjnamaaTotals.lean).
  GIVEN WITH THE SEED: the statements are not yours to turn. If you find one false, say at which input.
  Laid BY PROGRAM, IN A SANDBOX (cutbox-rows.mjs): the forced cells as the released guide's own fill.sh prints them over the translation 95573de935a55363… (all of the seat's roots in one cut). By AI agents, Wed Nov 11 2026. No macro, syntax, notation, axiom, sorry.
-/
import Derived.Test.YtjekdceicjnamaaChecked
import GoSem.Claim
import GoSem.ClaimJoined
import GoSem.ClaimMapViews
import Derived.JoinedTies
import Derived.KernelRfl
namespace Go.Proofs.Ytjekdceicjnamaa
/- THE CELL 'sum', in the pinned program and in every row, IS THE sha256 OF THE DUMP (.gsa) THAT YtjekdceicjnamaaProg.lean LOADS. Nothing in Lean hashes anything: it is a label: what it is worth is what the hold of that sum in a sandbox is worth. -/
noncomputable def Try.pinned : Pinned := { name := "ytjekdceicjnamaa", sum := "95573de935a5536375ebd4eec74a141c8bb281f47ab8ff445eb9de7271f3ec4b", checked := Try.checked }
namespace Rows
def none {H : Type} : Left H := { results := [], args := [] }

/-- 'ephemerislaw1.LunisolarBegins': WHATEVER THE INPUT: true; the input reads as it did. -/
def lunisolarBeginsSpec : ChangeSpec := { name := "lunisolarBegins", fn := fun _ => fun
  | [d1, d2, d3] => { results := [.lit (.bool true)], args := [d1, d2, d3] }
  | _ => none }
def lunisolarBeginsRow : OpenClaim := { program := "ytjekdceicjnamaa", sum := "95573de935a5536375ebd4eec74a141c8bb281f47ab8ff445eb9de7271f3ec4b", func := "ephemeris/ephemerislaw1.LunisolarBegins", spec := "lunisolarBegins", unfollowed := true, recurses := true, apart := false }
def LunisolarBeginsSaid : Prop := lunisolarBeginsRow.holds Try.pinned (OpenSpec.ofChange lunisolarBeginsSpec)

/-- ITS FALSE NEIGHBOUR: 'it returns false'. Refute it at one input. -/
def lunisolarBeginsWrong : ChangeSpec := { name := "lunisolarBegins", fn := fun _ => fun
  | [d1, d2, d3] => { results := [.lit (.bool false)], args := [d1, d2, d3] }
  | _ => none }
def LunisolarBeginsWrongFalsely : Prop := lunisolarBeginsRow.holds Try.pinned (OpenSpec.ofChange lunisolarBeginsWrong)

/-- 'ephemerislaw1.LunisolarToDays': WHATEVER THE INPUT: true; the input reads as it did. -/
def lunisolarToDaysSpec : ChangeSpec := { name := "lunisolarToDays", fn := fun _ => fun
  | [d1, d2] => { results := [.lit (.bool true)], args := [d1, d2] }
  | _ => none }
def lunisolarToDaysRow : OpenClaim := { program := "ytjekdceicjnamaa", sum := "95573de935a5536375ebd4eec74a141c8bb281f47ab8ff445eb9de7271f3ec4b", func := "ephemeris/ephemerislaw1.LunisolarToDays", spec := "lunisolarToDays", unfollowed := true, recurses := true, apart := false }
def LunisolarToDaysSaid : Prop := lunisolarToDaysRow.holds Try.pinned (OpenSpec.ofChange lunisolarToDaysSpec)

/-- ITS FALSE NEIGHBOUR: 'it returns false'. Refute it at one input. -/
def lunisolarToDaysWrong : ChangeSpec := { name := "lunisolarToDays", fn := fun _ => fun
  | [d1, d2] => { results := [.lit (.bool false)], args := [d1, d2] }
  | _ => none }
def LunisolarToDaysWrongFalsely : Prop := lunisolarToDaysRow.holds Try.pinned (OpenSpec.ofChange lunisolarToDaysWrong)

/-- 'ephemerislaw1.LunisolarFromDays': WHATEVER THE INPUT: true; the input reads as it did. -/
def lunisolarFromDaysSpec : ChangeSpec := { name := "lunisolarFromDays", fn := fun _ => fun
  | [d1, d2] => { results := [.lit (.bool true)], args := [d1, d2] }
  | _ => none }
def lunisolarFromDaysRow : OpenClaim := { program := "ytjekdceicjnamaa", sum := "95573de935a5536375ebd4eec74a141c8bb281f47ab8ff445eb9de7271f3ec4b", func := "ephemeris/ephemerislaw1.LunisolarFromDays", spec := "lunisolarFromDays", unfollowed := true, recurses := true, apart := false }
def LunisolarFromDaysSaid : Prop := lunisolarFromDaysRow.holds Try.pinned (OpenSpec.ofChange lunisolarFromDaysSpec)

/-- ITS FALSE NEIGHBOUR: 'it returns false'. Refute it at one input. -/
def lunisolarFromDaysWrong : ChangeSpec := { name := "lunisolarFromDays", fn := fun _ => fun
  | [d1, d2] => { results := [.lit (.bool false)], args := [d1, d2] }
  | _ => none }
def LunisolarFromDaysWrongFalsely : Prop := lunisolarFromDaysRow.holds Try.pinned (OpenSpec.ofChange lunisolarFromDaysWrong)

/-- 'ephemerislaw1.ArithLaters': WHATEVER THE INPUT: true; the input reads as it did. -/
def arithLatersSpec : ChangeSpec := { name := "arithLaters", fn := fun _ => fun
  | [d1, d2, d3, d4] => { results := [.lit (.bool true)], args := [d1, d2, d3, d4] }
  | _ => none }
def arithLatersRow : OpenClaim := { program := "ytjekdceicjnamaa", sum := "95573de935a5536375ebd4eec74a141c8bb281f47ab8ff445eb9de7271f3ec4b", func := "ephemeris/ephemerislaw1.ArithLaters", spec := "arithLaters", unfollowed := true, recurses := true, apart := false }
def ArithLatersSaid : Prop := arithLatersRow.holds Try.pinned (OpenSpec.ofChange arithLatersSpec)

/-- ITS FALSE NEIGHBOUR: 'it returns false'. Refute it at one input. -/
def arithLatersWrong : ChangeSpec := { name := "arithLaters", fn := fun _ => fun
  | [d1, d2, d3, d4] => { results := [.lit (.bool false)], args := [d1, d2, d3, d4] }
  | _ => none }
def ArithLatersWrongFalsely : Prop := arithLatersRow.holds Try.pinned (OpenSpec.ofChange arithLatersWrong)

/-- 'ephemerislaw1.CompileCompiles': WHATEVER THE INPUT: true; the input reads as it did. -/
def compileCompilesSpec : ChangeSpec := { name := "compileCompiles", fn := fun _ => fun
  | [d] => { results := [.lit (.bool true)], args := [d] }
  | _ => none }
def compileCompilesRow : OpenClaim := { program := "ytjekdceicjnamaa", sum := "95573de935a5536375ebd4eec74a141c8bb281f47ab8ff445eb9de7271f3ec4b", func := "ephemeris/ephemerislaw1.CompileCompiles", spec := "compileCompiles", unfollowed := true, recurses := true, loops := true, apart := false }
def CompileCompilesSaid : Prop := compileCompilesRow.holds Try.pinned (OpenSpec.ofChange compileCompilesSpec)

/-- ITS FALSE NEIGHBOUR: 'it returns false'. Refute it at one input. -/
def compileCompilesWrong : ChangeSpec := { name := "compileCompiles", fn := fun _ => fun
  | [d] => { results := [.lit (.bool false)], args := [d] }
  | _ => none }
def CompileCompilesWrongFalsely : Prop := compileCompilesRow.holds Try.pinned (OpenSpec.ofChange compileCompilesWrong)

/-- 'ephemerislaw1.CompileLeasts': WHATEVER THE INPUT: true; the input reads as it did. -/
def compileLeastsSpec : ChangeSpec := { name := "compileLeasts", fn := fun _ => fun
  | [d] => { results := [.lit (.bool true)], args := [d] }
  | _ => none }
def compileLeastsRow : OpenClaim := { program := "ytjekdceicjnamaa", sum := "95573de935a5536375ebd4eec74a141c8bb281f47ab8ff445eb9de7271f3ec4b", func := "ephemeris/ephemerislaw1.CompileLeasts", spec := "compileLeasts", unfollowed := true, recurses := true, apart := false }
def CompileLeastsSaid : Prop := compileLeastsRow.holds Try.pinned (OpenSpec.ofChange compileLeastsSpec)

/-- ITS FALSE NEIGHBOUR: 'it returns false'. Refute it at one input. -/
def compileLeastsWrong : ChangeSpec := { name := "compileLeasts", fn := fun _ => fun
  | [d] => { results := [.lit (.bool false)], args := [d] }
  | _ => none }
def CompileLeastsWrongFalsely : Prop := compileLeastsRow.holds Try.pinned (OpenSpec.ofChange compileLeastsWrong)

/-- 'ephemerislaw1.RuleChecks': WHATEVER THE INPUT: true; the input reads as it did. -/
def ruleChecksSpec : ChangeSpec := { name := "ruleChecks", fn := fun _ => fun
  | [d] => { results := [.lit (.bool true)], args := [d] }
  | _ => none }
def ruleChecksRow : OpenClaim := { program := "ytjekdceicjnamaa", sum := "95573de935a5536375ebd4eec74a141c8bb281f47ab8ff445eb9de7271f3ec4b", func := "ephemeris/ephemerislaw1.RuleChecks", spec := "ruleChecks", unfollowed := true, recurses := true, loops := true, apart := false }
def RuleChecksSaid : Prop := ruleChecksRow.holds Try.pinned (OpenSpec.ofChange ruleChecksSpec)

/-- ITS FALSE NEIGHBOUR: 'it returns false'. Refute it at one input. -/
def ruleChecksWrong : ChangeSpec := { name := "ruleChecks", fn := fun _ => fun
  | [d] => { results := [.lit (.bool false)], args := [d] }
  | _ => none }
def RuleChecksWrongFalsely : Prop := ruleChecksRow.holds Try.pinned (OpenSpec.ofChange ruleChecksWrong)

/-- 'ephemerislaw1.RuleEvals': WHATEVER THE INPUT: true; the input reads as it did. -/
def ruleEvalsSpec : ChangeSpec := { name := "ruleEvals", fn := fun _ => fun
  | [d1, d2] => { results := [.lit (.bool true)], args := [d1, d2] }
  | _ => none }
def ruleEvalsRow : OpenClaim := { program := "ytjekdceicjnamaa", sum := "95573de935a5536375ebd4eec74a141c8bb281f47ab8ff445eb9de7271f3ec4b", func := "ephemeris/ephemerislaw1.RuleEvals", spec := "ruleEvals", recurses := true, loops := true, apart := false }
def RuleEvalsSaid : Prop := ruleEvalsRow.holds Try.pinned (OpenSpec.ofChange ruleEvalsSpec)

/-- ITS FALSE NEIGHBOUR: 'it returns false'. Refute it at one input. -/
def ruleEvalsWrong : ChangeSpec := { name := "ruleEvals", fn := fun _ => fun
  | [d1, d2] => { results := [.lit (.bool false)], args := [d1, d2] }
  | _ => none }
def RuleEvalsWrongFalsely : Prop := ruleEvalsRow.holds Try.pinned (OpenSpec.ofChange ruleEvalsWrong)

/- THE SECOND FORM. 'bulk': how many values and letters a reading holds, each counted each time it is reached (what is shared counts as often as it is met; a slice's spare places count too). A statement '..UptoSaid' is the law's where the arguments, and the package variables that the reading takes, are together of bulk at most 1048576: NARROWER than '..Said'. Prove '..Said' where nothing that the law and all that it calls make is longer than what came in: it says more and counts as full. Else prove '..UptoSaid'. A law counts once. -/
mutual
def uptoBulk {H : Type} : DataW H → Nat
  | .lit (.string bytes) => bytes.length + 1
  | .lit _ => 1
  | .nil => 1
  | .ptr d => uptoBulk d + 1
  | .slice elems spare => uptoBulkAll elems + uptoBulkAll spare + 1
  | .agg parts => uptoBulkAll parts + 1
  | .iface _ d => uptoBulk d + 1
  | .map entries => uptoBulkEntries entries + 1
  | .held _ => 1
def uptoBulkAll {H : Type} : List (DataW H) → Nat
  | [] => 0
  | d :: r => uptoBulk d + uptoBulkAll r
def uptoBulkEntries {H : Type} : List (Lit × DataW H) → Nat
  | [] => 0
  | x :: r => uptoBulkEntry x + uptoBulkEntries r
def uptoBulkEntry {H : Type} : Lit × DataW H → Nat
  | (.string bytes, d) => bytes.length + uptoBulk d + 1
  | (_, d) => uptoBulk d + 1
 end
def uptoSmall : (H : Type) → List (DataW H) → Bool := fun _ ds => decide (uptoBulkAll ds ≤ 1048576)
def OpenSpec.upto (s : _root_.Go.ChangeSpec) : _root_.Go.OpenSpec := { _root_.Go.OpenSpec.ofChange s with cond := some uptoSmall }

/-- 'ephemerislaw1.LunisolarBegins', WHERE WHAT IT READS IS OF BULK AT MOST 1048576: true; the input reads as it did. -/
def lunisolarBeginsUptoRow : OpenClaim := { program := "ytjekdceicjnamaa", sum := "95573de935a5536375ebd4eec74a141c8bb281f47ab8ff445eb9de7271f3ec4b", func := "ephemeris/ephemerislaw1.LunisolarBegins", spec := "lunisolarBegins", unfollowed := true, recurses := true, apart := false, narrowed := true }
def LunisolarBeginsUptoSaid : Prop := lunisolarBeginsUptoRow.holds Try.pinned (OpenSpec.upto lunisolarBeginsSpec)

/-- 'ephemerislaw1.LunisolarToDays', WHERE WHAT IT READS IS OF BULK AT MOST 1048576: true; the input reads as it did. -/
def lunisolarToDaysUptoRow : OpenClaim := { program := "ytjekdceicjnamaa", sum := "95573de935a5536375ebd4eec74a141c8bb281f47ab8ff445eb9de7271f3ec4b", func := "ephemeris/ephemerislaw1.LunisolarToDays", spec := "lunisolarToDays", unfollowed := true, recurses := true, apart := false, narrowed := true }
def LunisolarToDaysUptoSaid : Prop := lunisolarToDaysUptoRow.holds Try.pinned (OpenSpec.upto lunisolarToDaysSpec)

/-- 'ephemerislaw1.LunisolarFromDays', WHERE WHAT IT READS IS OF BULK AT MOST 1048576: true; the input reads as it did. -/
def lunisolarFromDaysUptoRow : OpenClaim := { program := "ytjekdceicjnamaa", sum := "95573de935a5536375ebd4eec74a141c8bb281f47ab8ff445eb9de7271f3ec4b", func := "ephemeris/ephemerislaw1.LunisolarFromDays", spec := "lunisolarFromDays", unfollowed := true, recurses := true, apart := false, narrowed := true }
def LunisolarFromDaysUptoSaid : Prop := lunisolarFromDaysUptoRow.holds Try.pinned (OpenSpec.upto lunisolarFromDaysSpec)

/-- 'ephemerislaw1.ArithLaters', WHERE WHAT IT READS IS OF BULK AT MOST 1048576: true; the input reads as it did. -/
def arithLatersUptoRow : OpenClaim := { program := "ytjekdceicjnamaa", sum := "95573de935a5536375ebd4eec74a141c8bb281f47ab8ff445eb9de7271f3ec4b", func := "ephemeris/ephemerislaw1.ArithLaters", spec := "arithLaters", unfollowed := true, recurses := true, apart := false, narrowed := true }
def ArithLatersUptoSaid : Prop := arithLatersUptoRow.holds Try.pinned (OpenSpec.upto arithLatersSpec)

/-- 'ephemerislaw1.CompileCompiles', WHERE WHAT IT READS IS OF BULK AT MOST 1048576: true; the input reads as it did. -/
def compileCompilesUptoRow : OpenClaim := { program := "ytjekdceicjnamaa", sum := "95573de935a5536375ebd4eec74a141c8bb281f47ab8ff445eb9de7271f3ec4b", func := "ephemeris/ephemerislaw1.CompileCompiles", spec := "compileCompiles", unfollowed := true, recurses := true, loops := true, apart := false, narrowed := true }
def CompileCompilesUptoSaid : Prop := compileCompilesUptoRow.holds Try.pinned (OpenSpec.upto compileCompilesSpec)

/-- 'ephemerislaw1.CompileLeasts', WHERE WHAT IT READS IS OF BULK AT MOST 1048576: true; the input reads as it did. -/
def compileLeastsUptoRow : OpenClaim := { program := "ytjekdceicjnamaa", sum := "95573de935a5536375ebd4eec74a141c8bb281f47ab8ff445eb9de7271f3ec4b", func := "ephemeris/ephemerislaw1.CompileLeasts", spec := "compileLeasts", unfollowed := true, recurses := true, apart := false, narrowed := true }
def CompileLeastsUptoSaid : Prop := compileLeastsUptoRow.holds Try.pinned (OpenSpec.upto compileLeastsSpec)

/-- 'ephemerislaw1.RuleChecks', WHERE WHAT IT READS IS OF BULK AT MOST 1048576: true; the input reads as it did. -/
def ruleChecksUptoRow : OpenClaim := { program := "ytjekdceicjnamaa", sum := "95573de935a5536375ebd4eec74a141c8bb281f47ab8ff445eb9de7271f3ec4b", func := "ephemeris/ephemerislaw1.RuleChecks", spec := "ruleChecks", unfollowed := true, recurses := true, loops := true, apart := false, narrowed := true }
def RuleChecksUptoSaid : Prop := ruleChecksUptoRow.holds Try.pinned (OpenSpec.upto ruleChecksSpec)

/-- 'ephemerislaw1.RuleEvals', WHERE WHAT IT READS IS OF BULK AT MOST 1048576: true; the input reads as it did. -/
def ruleEvalsUptoRow : OpenClaim := { program := "ytjekdceicjnamaa", sum := "95573de935a5536375ebd4eec74a141c8bb281f47ab8ff445eb9de7271f3ec4b", func := "ephemeris/ephemerislaw1.RuleEvals", spec := "ruleEvals", recurses := true, loops := true, apart := false, narrowed := true }
def RuleEvalsUptoSaid : Prop := ruleEvalsUptoRow.holds Try.pinned (OpenSpec.upto ruleEvalsSpec)

end Rows
end Go.Proofs.Ytjekdceicjnamaa
