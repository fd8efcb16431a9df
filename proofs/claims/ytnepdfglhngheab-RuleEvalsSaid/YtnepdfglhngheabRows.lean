/-
  NARROWER THAN 'FOR EVERY INPUT', by the rows' own cells (each row's printed sentence says how): RuleChecks: loops · RuleEvals: loops · CompileCompiles: loops.
  DERIVED. THE GIVEN ROWS OF THIS SEAT. 3 by the template 'for every input the law returns true; each argument reads behind the call as it read before'; 0 by the template 'total and deterministic' (their statements: YtnepdfglhngheabTotals.lean).
  GIVEN WITH THE SEED: the statements are not yours to turn. If you find one false, say at which input.
  Laid BY PROGRAM, IN A SANDBOX (cutbox-rows.mjs): the forced cells as the released guide's own fill.sh prints them over the translation e83f6f86914f482d… (all of the seat's roots in one cut). By AI agents, Wed Nov 11 2026. No macro, syntax, notation, axiom, sorry.
-/
import Derived.Test.YtnepdfglhngheabChecked
import GoSem.Claim
import GoSem.ClaimJoined
import GoSem.ClaimMapViews
import Derived.JoinedTies
import Derived.KernelRfl
namespace Go.Proofs.Ytnepdfglhngheab
/- THE CELL 'sum', in the pinned program and in every row, IS THE sha256 OF THE DUMP (.gsa) THAT YtnepdfglhngheabProg.lean LOADS. Nothing in Lean hashes anything: it is a label: what it is worth is what the hold of that sum in a sandbox is worth. -/
noncomputable def Try.pinned : Pinned := { name := "ytnepdfglhngheab", sum := "e83f6f86914f482d8ace917292f25c277beea15dbb206dcfa52db8512f46bcef", checked := Try.checked }
namespace Rows
def none {H : Type} : Left H := { results := [], args := [] }

/-- 'ephemerislaw1.RuleChecks': WHATEVER THE INPUT: true; the input reads as it did. -/
def ruleChecksSpec : ChangeSpec := { name := "ruleChecks", fn := fun _ => fun
  | [d] => { results := [.lit (.bool true)], args := [d] }
  | _ => none }
def ruleChecksRow : OpenClaim := { program := "ytnepdfglhngheab", sum := "e83f6f86914f482d8ace917292f25c277beea15dbb206dcfa52db8512f46bcef", func := "ephemeris/ephemerislaw1.RuleChecks", spec := "ruleChecks", unfollowed := true, recurses := true, loops := true, apart := false }
def RuleChecksSaid : Prop := ruleChecksRow.holds Try.pinned (OpenSpec.ofChange ruleChecksSpec)

/-- ITS FALSE NEIGHBOUR: 'it returns false'. Refute it at one input. -/
def ruleChecksWrong : ChangeSpec := { name := "ruleChecks", fn := fun _ => fun
  | [d] => { results := [.lit (.bool false)], args := [d] }
  | _ => none }
def RuleChecksWrongFalsely : Prop := ruleChecksRow.holds Try.pinned (OpenSpec.ofChange ruleChecksWrong)

/-- 'ephemerislaw1.RuleEvals': WHATEVER THE INPUT: true; the input reads as it did. -/
def ruleEvalsSpec : ChangeSpec := { name := "ruleEvals", fn := fun _ => fun
  | [d1, d2] => { results := [.lit (.bool true)], args := [d1, d2] }
  | _ => none }
def ruleEvalsRow : OpenClaim := { program := "ytnepdfglhngheab", sum := "e83f6f86914f482d8ace917292f25c277beea15dbb206dcfa52db8512f46bcef", func := "ephemeris/ephemerislaw1.RuleEvals", spec := "ruleEvals", recurses := true, loops := true, apart := false }
def RuleEvalsSaid : Prop := ruleEvalsRow.holds Try.pinned (OpenSpec.ofChange ruleEvalsSpec)

/-- ITS FALSE NEIGHBOUR: 'it returns false'. Refute it at one input. -/
def ruleEvalsWrong : ChangeSpec := { name := "ruleEvals", fn := fun _ => fun
  | [d1, d2] => { results := [.lit (.bool false)], args := [d1, d2] }
  | _ => none }
def RuleEvalsWrongFalsely : Prop := ruleEvalsRow.holds Try.pinned (OpenSpec.ofChange ruleEvalsWrong)

/-- 'ephemerislaw1.CompileCompiles': WHATEVER THE INPUT: true; the input reads as it did. -/
def compileCompilesSpec : ChangeSpec := { name := "compileCompiles", fn := fun _ => fun
  | [d] => { results := [.lit (.bool true)], args := [d] }
  | _ => none }
def compileCompilesRow : OpenClaim := { program := "ytnepdfglhngheab", sum := "e83f6f86914f482d8ace917292f25c277beea15dbb206dcfa52db8512f46bcef", func := "ephemeris/ephemerislaw1.CompileCompiles", spec := "compileCompiles", unfollowed := true, recurses := true, loops := true, apart := false }
def CompileCompilesSaid : Prop := compileCompilesRow.holds Try.pinned (OpenSpec.ofChange compileCompilesSpec)

/-- ITS FALSE NEIGHBOUR: 'it returns false'. Refute it at one input. -/
def compileCompilesWrong : ChangeSpec := { name := "compileCompiles", fn := fun _ => fun
  | [d] => { results := [.lit (.bool false)], args := [d] }
  | _ => none }
def CompileCompilesWrongFalsely : Prop := compileCompilesRow.holds Try.pinned (OpenSpec.ofChange compileCompilesWrong)

/- THE SECOND FORM. 'bulk': how many values and letters a reading holds, each counted each time it is reached (what is shared counts as often as it is met; a slice's spare places count too). A statement '..UptoSaid' is the law's where the arguments, and the package variables that the reading takes, are together of bulk at most 1048576: NARROWER than '..Said'. Prove '..Said' where nothing that the law and all that it calls make is longer than what came in: it says more and counts as full. Else prove '..UptoSaid'. A law counts once. -/
mutual
def uptoBulk {H : Type} : DataW H → Nat
  | .lit (.string bytes) => bytes.length + 1
  | .lit _ => 1
  | .nil => 1
  | .ptr d => uptoBulk d + 1
  | .slice elems spare => uptoBulkAll elems + uptoBulkAll spare + 1
  | .agg parts => uptoBulkAll parts + 1
  | .iface _ d => uptoBulk d + 1
  | .map entries => uptoBulkEntries entries + 1
  | .held _ => 1
def uptoBulkAll {H : Type} : List (DataW H) → Nat
  | [] => 0
  | d :: r => uptoBulk d + uptoBulkAll r
def uptoBulkEntries {H : Type} : List (Lit × DataW H) → Nat
  | [] => 0
  | x :: r => uptoBulkEntry x + uptoBulkEntries r
def uptoBulkEntry {H : Type} : Lit × DataW H → Nat
  | (.string bytes, d) => bytes.length + uptoBulk d + 1
  | (_, d) => uptoBulk d + 1
 end
def uptoSmall : (H : Type) → List (DataW H) → Bool := fun _ ds => decide (uptoBulkAll ds ≤ 1048576)
def OpenSpec.upto (s : _root_.Go.ChangeSpec) : _root_.Go.OpenSpec := { _root_.Go.OpenSpec.ofChange s with cond := some uptoSmall }

/-- 'ephemerislaw1.RuleChecks', WHERE WHAT IT READS IS OF BULK AT MOST 1048576: true; the input reads as it did. -/
def ruleChecksUptoRow : OpenClaim := { program := "ytnepdfglhngheab", sum := "e83f6f86914f482d8ace917292f25c277beea15dbb206dcfa52db8512f46bcef", func := "ephemeris/ephemerislaw1.RuleChecks", spec := "ruleChecks", unfollowed := true, recurses := true, loops := true, apart := false, narrowed := true }
def RuleChecksUptoSaid : Prop := ruleChecksUptoRow.holds Try.pinned (OpenSpec.upto ruleChecksSpec)

/-- 'ephemerislaw1.RuleEvals', WHERE WHAT IT READS IS OF BULK AT MOST 1048576: true; the input reads as it did. -/
def ruleEvalsUptoRow : OpenClaim := { program := "ytnepdfglhngheab", sum := "e83f6f86914f482d8ace917292f25c277beea15dbb206dcfa52db8512f46bcef", func := "ephemeris/ephemerislaw1.RuleEvals", spec := "ruleEvals", recurses := true, loops := true, apart := false, narrowed := true }
def RuleEvalsUptoSaid : Prop := ruleEvalsUptoRow.holds Try.pinned (OpenSpec.upto ruleEvalsSpec)

/-- 'ephemerislaw1.CompileCompiles', WHERE WHAT IT READS IS OF BULK AT MOST 1048576: true; the input reads as it did. -/
def compileCompilesUptoRow : OpenClaim := { program := "ytnepdfglhngheab", sum := "e83f6f86914f482d8ace917292f25c277beea15dbb206dcfa52db8512f46bcef", func := "ephemeris/ephemerislaw1.CompileCompiles", spec := "compileCompiles", unfollowed := true, recurses := true, loops := true, apart := false, narrowed := true }
def CompileCompilesUptoSaid : Prop := compileCompilesUptoRow.holds Try.pinned (OpenSpec.upto compileCompilesSpec)

end Rows
end Go.Proofs.Ytnepdfglhngheab
