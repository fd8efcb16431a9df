/-
  NARROWER THAN 'FOR EVERY INPUT', by the rows' own cells (each row's printed sentence says how): CompileCompiles: loops.
  DERIVED. THE GIVEN ROWS OF THIS SEAT. 3 by the template 'for every input the law returns true; each argument reads behind the call as it read before'; 0 by the template 'total and deterministic' (their statements: YtjpbkkoflaajcaaTotals.lean).
  GIVEN WITH THE SEED: the statements are not yours to turn. If you find one false, say at which input.
  Laid BY PROGRAM, IN A SANDBOX (cutbox-rows.mjs): the forced cells as the released guide's own fill.sh prints them over the translation 0368dcf8bfe69387… (all of the seat's roots in one cut). By AI agents, Wed Nov 11 2026. No macro, syntax, notation, axiom, sorry.
-/
import Derived.Test.YtjpbkkoflaajcaaChecked
import GoSem.Claim
import GoSem.ClaimJoined
import GoSem.ClaimMapViews
import Derived.JoinedTies
import Derived.KernelRfl
namespace Go.Proofs.Ytjpbkkoflaajcaa
/- THE CELL 'sum', in the pinned program and in every row, IS THE sha256 OF THE DUMP (.gsa) THAT YtjpbkkoflaajcaaProg.lean LOADS. Nothing in Lean hashes anything: it is a label: what it is worth is what the hold of that sum in a sandbox is worth. -/
noncomputable def Try.pinned : Pinned := { name := "ytjpbkkoflaajcaa", sum := "0368dcf8bfe6938709b74bdb772ca660c8a4d708eb474f747d99169932f4e241", checked := Try.checked }
namespace Rows
def none {H : Type} : Left H := { results := [], args := [] }

/-- 'ephemerislaw1.CompileCompiles': WHATEVER THE INPUT: true; the input reads as it did. -/
def compileCompilesSpec : ChangeSpec := { name := "compileCompiles", fn := fun _ => fun
  | [d] => { results := [.lit (.bool true)], args := [d] }
  | _ => none }
def compileCompilesRow : OpenClaim := { program := "ytjpbkkoflaajcaa", sum := "0368dcf8bfe6938709b74bdb772ca660c8a4d708eb474f747d99169932f4e241", func := "ephemeris/ephemerislaw1.CompileCompiles", spec := "compileCompiles", unfollowed := true, recurses := true, loops := true, apart := false }
def CompileCompilesSaid : Prop := compileCompilesRow.holds Try.pinned (OpenSpec.ofChange compileCompilesSpec)

/-- ITS FALSE NEIGHBOUR: 'it returns false'. Refute it at one input. -/
def compileCompilesWrong : ChangeSpec := { name := "compileCompiles", fn := fun _ => fun
  | [d] => { results := [.lit (.bool false)], args := [d] }
  | _ => none }
def CompileCompilesWrongFalsely : Prop := compileCompilesRow.holds Try.pinned (OpenSpec.ofChange compileCompilesWrong)

/-- 'ephemerislaw1.CompileLeasts': WHATEVER THE INPUT: true; the input reads as it did. -/
def compileLeastsSpec : ChangeSpec := { name := "compileLeasts", fn := fun _ => fun
  | [d] => { results := [.lit (.bool true)], args := [d] }
  | _ => none }
def compileLeastsRow : OpenClaim := { program := "ytjpbkkoflaajcaa", sum := "0368dcf8bfe6938709b74bdb772ca660c8a4d708eb474f747d99169932f4e241", func := "ephemeris/ephemerislaw1.CompileLeasts", spec := "compileLeasts", unfollowed := true, recurses := true, apart := false }
def CompileLeastsSaid : Prop := compileLeastsRow.holds Try.pinned (OpenSpec.ofChange compileLeastsSpec)

/-- ITS FALSE NEIGHBOUR: 'it returns false'. Refute it at one input. -/
def compileLeastsWrong : ChangeSpec := { name := "compileLeasts", fn := fun _ => fun
  | [d] => { results := [.lit (.bool false)], args := [d] }
  | _ => none }
def CompileLeastsWrongFalsely : Prop := compileLeastsRow.holds Try.pinned (OpenSpec.ofChange compileLeastsWrong)

/-- 'ephemerislaw1.ObservedExtends': WHATEVER THE INPUT: true; the input reads as it did. -/
def observedExtendsSpec : ChangeSpec := { name := "observedExtends", fn := fun _ => fun
  | [d1, d2] => { results := [.lit (.bool true)], args := [d1, d2] }
  | _ => none }
def observedExtendsRow : OpenClaim := { program := "ytjpbkkoflaajcaa", sum := "0368dcf8bfe6938709b74bdb772ca660c8a4d708eb474f747d99169932f4e241", func := "ephemeris/ephemerislaw1.ObservedExtends", spec := "observedExtends", apart := false }
def ObservedExtendsSaid : Prop := observedExtendsRow.holds Try.pinned (OpenSpec.ofChange observedExtendsSpec)

/-- ITS FALSE NEIGHBOUR: 'it returns false'. Refute it at one input. -/
def observedExtendsWrong : ChangeSpec := { name := "observedExtends", fn := fun _ => fun
  | [d1, d2] => { results := [.lit (.bool false)], args := [d1, d2] }
  | _ => none }
def ObservedExtendsWrongFalsely : Prop := observedExtendsRow.holds Try.pinned (OpenSpec.ofChange observedExtendsWrong)

/- THE SECOND FORM. 'bulk': how many values and letters a reading holds, each counted each time it is reached (what is shared counts as often as it is met; a slice's spare places count too). A statement '..UptoSaid' is the law's where the arguments, and the package variables that the reading takes, are together of bulk at most 1048576: NARROWER than '..Said'. Prove '..Said' where nothing that the law and all that it calls make is longer than what came in: it says more and counts as full. Else prove '..UptoSaid'. A law counts once. -/
mutual
def uptoBulk {H : Type} : DataW H → Nat
  | .lit (.string bytes) => bytes.length + 1
  | .lit _ => 1
  | .nil => 1
  | .ptr d => uptoBulk d + 1
  | .slice elems spare => uptoBulkAll elems + uptoBulkAll spare + 1
  | .agg parts => uptoBulkAll parts + 1
  | .iface _ d => uptoBulk d + 1
  | .map entries => uptoBulkEntries entries + 1
  | .held _ => 1
def uptoBulkAll {H : Type} : List (DataW H) → Nat
  | [] => 0
  | d :: r => uptoBulk d + uptoBulkAll r
def uptoBulkEntries {H : Type} : List (Lit × DataW H) → Nat
  | [] => 0
  | x :: r => uptoBulkEntry x + uptoBulkEntries r
def uptoBulkEntry {H : Type} : Lit × DataW H → Nat
  | (.string bytes, d) => bytes.length + uptoBulk d + 1
  | (_, d) => uptoBulk d + 1
 end
def uptoSmall : (H : Type) → List (DataW H) → Bool := fun _ ds => decide (uptoBulkAll ds ≤ 1048576)
def OpenSpec.upto (s : _root_.Go.ChangeSpec) : _root_.Go.OpenSpec := { _root_.Go.OpenSpec.ofChange s with cond := some uptoSmall }

/-- 'ephemerislaw1.CompileCompiles', WHERE WHAT IT READS IS OF BULK AT MOST 1048576: true; the input reads as it did. -/
def compileCompilesUptoRow : OpenClaim := { program := "ytjpbkkoflaajcaa", sum := "0368dcf8bfe6938709b74bdb772ca660c8a4d708eb474f747d99169932f4e241", func := "ephemeris/ephemerislaw1.CompileCompiles", spec := "compileCompiles", unfollowed := true, recurses := true, loops := true, apart := false, narrowed := true }
def CompileCompilesUptoSaid : Prop := compileCompilesUptoRow.holds Try.pinned (OpenSpec.upto compileCompilesSpec)

/-- 'ephemerislaw1.CompileLeasts', WHERE WHAT IT READS IS OF BULK AT MOST 1048576: true; the input reads as it did. -/
def compileLeastsUptoRow : OpenClaim := { program := "ytjpbkkoflaajcaa", sum := "0368dcf8bfe6938709b74bdb772ca660c8a4d708eb474f747d99169932f4e241", func := "ephemeris/ephemerislaw1.CompileLeasts", spec := "compileLeasts", unfollowed := true, recurses := true, apart := false, narrowed := true }
def CompileLeastsUptoSaid : Prop := compileLeastsUptoRow.holds Try.pinned (OpenSpec.upto compileLeastsSpec)

/-- 'ephemerislaw1.ObservedExtends', WHERE WHAT IT READS IS OF BULK AT MOST 1048576: true; the input reads as it did. -/
def observedExtendsUptoRow : OpenClaim := { program := "ytjpbkkoflaajcaa", sum := "0368dcf8bfe6938709b74bdb772ca660c8a4d708eb474f747d99169932f4e241", func := "ephemeris/ephemerislaw1.ObservedExtends", spec := "observedExtends", apart := false, narrowed := true }
def ObservedExtendsUptoSaid : Prop := observedExtendsUptoRow.holds Try.pinned (OpenSpec.upto observedExtendsSpec)

end Rows
end Go.Proofs.Ytjpbkkoflaajcaa
