/-
  No cell of these rows narrows 'for every input' (looked for: loops, veiled, ifaces, maps, wideKeys, modest, calm, conditions, laid).
  DERIVED. THE GIVEN ROWS OF THIS SEAT. 6 by the template 'for every input the law returns true; each argument reads behind the call as it read before'; 0 by the template 'total and deterministic' (their statements: YtnepdfglhngheaaTotals.lean).
  GIVEN WITH THE SEED: the statements are not yours to turn. If you find one false, say at which input.
  Laid BY PROGRAM, IN A SANDBOX (cutbox-rows.mjs): the forced cells as the released guide's own fill.sh prints them over the translation c12486b318f1b10b… (all of the seat's roots in one cut). By AI agents, Wed Nov 11 2026. No macro, syntax, notation, axiom, sorry.
-/
import Derived.Test.YtnepdfglhngheaaChecked
import GoSem.Claim
import GoSem.ClaimJoined
import GoSem.ClaimMapViews
import Derived.JoinedTies
import Derived.KernelRfl
namespace Go.Proofs.Ytnepdfglhngheaa
/- THE CELL 'sum', in the pinned program and in every row, IS THE sha256 OF THE DUMP (.gsa) THAT YtnepdfglhngheaaProg.lean LOADS. Nothing in Lean hashes anything: it is a label: what it is worth is what the hold of that sum in a sandbox is worth. -/
noncomputable def Try.pinned : Pinned := { name := "ytnepdfglhngheaa", sum := "c12486b318f1b10b7a6cbe20eca856bab93a3dbd87937fa9425ce71c08e2313e", checked := Try.checked }
namespace Rows
def none {H : Type} : Left H := { results := [], args := [] }

/-- 'ephemerislaw1.ObservedExtends': WHATEVER THE INPUT: true; the input reads as it did. -/
def observedExtendsSpec : ChangeSpec := { name := "observedExtends", fn := fun _ => fun
  | [d1, d2] => { results := [.lit (.bool true)], args := [d1, d2] }
  | _ => none }
def observedExtendsRow : OpenClaim := { program := "ytnepdfglhngheaa", sum := "c12486b318f1b10b7a6cbe20eca856bab93a3dbd87937fa9425ce71c08e2313e", func := "ephemeris/ephemerislaw1.ObservedExtends", spec := "observedExtends", apart := false }
def ObservedExtendsSaid : Prop := observedExtendsRow.holds Try.pinned (OpenSpec.ofChange observedExtendsSpec)

/-- ITS FALSE NEIGHBOUR: 'it returns false'. Refute it at one input. -/
def observedExtendsWrong : ChangeSpec := { name := "observedExtends", fn := fun _ => fun
  | [d1, d2] => { results := [.lit (.bool false)], args := [d1, d2] }
  | _ => none }
def ObservedExtendsWrongFalsely : Prop := observedExtendsRow.holds Try.pinned (OpenSpec.ofChange observedExtendsWrong)

/-- 'ephemerislaw1.ObservedOfs': WHATEVER THE INPUT: true; the input reads as it did. -/
def observedOfsSpec : ChangeSpec := { name := "observedOfs", fn := fun _ => fun
  | [d1, d2, d3] => { results := [.lit (.bool true)], args := [d1, d2, d3] }
  | _ => none }
def observedOfsRow : OpenClaim := { program := "ytnepdfglhngheaa", sum := "c12486b318f1b10b7a6cbe20eca856bab93a3dbd87937fa9425ce71c08e2313e", func := "ephemeris/ephemerislaw1.ObservedOfs", spec := "observedOfs", unfollowed := true, recurses := true, apart := false }
def ObservedOfsSaid : Prop := observedOfsRow.holds Try.pinned (OpenSpec.ofChange observedOfsSpec)

/-- ITS FALSE NEIGHBOUR: 'it returns false'. Refute it at one input. -/
def observedOfsWrong : ChangeSpec := { name := "observedOfs", fn := fun _ => fun
  | [d1, d2, d3] => { results := [.lit (.bool false)], args := [d1, d2, d3] }
  | _ => none }
def ObservedOfsWrongFalsely : Prop := observedOfsRow.holds Try.pinned (OpenSpec.ofChange observedOfsWrong)

/-- 'ephemerislaw1.FracNears': WHATEVER THE INPUT: true; the input reads as it did. -/
def fracNearsSpec : ChangeSpec := { name := "fracNears", fn := fun _ => fun
  | [d1, d2] => { results := [.lit (.bool true)], args := [d1, d2] }
  | _ => none }
def fracNearsRow : OpenClaim := { program := "ytnepdfglhngheaa", sum := "c12486b318f1b10b7a6cbe20eca856bab93a3dbd87937fa9425ce71c08e2313e", func := "ephemeris/ephemerislaw1.FracNears", spec := "fracNears", apart := false }
def FracNearsSaid : Prop := fracNearsRow.holds Try.pinned (OpenSpec.ofChange fracNearsSpec)

/-- ITS FALSE NEIGHBOUR: 'it returns false'. Refute it at one input. -/
def fracNearsWrong : ChangeSpec := { name := "fracNears", fn := fun _ => fun
  | [d1, d2] => { results := [.lit (.bool false)], args := [d1, d2] }
  | _ => none }
def FracNearsWrongFalsely : Prop := fracNearsRow.holds Try.pinned (OpenSpec.ofChange fracNearsWrong)

/-- 'ephemerislaw1.RecurLists': WHATEVER THE INPUT: true; the input reads as it did. -/
def recurListsSpec : ChangeSpec := { name := "recurLists", fn := fun _ => fun
  | [d1, d2, d3] => { results := [.lit (.bool true)], args := [d1, d2, d3] }
  | _ => none }
def recurListsRow : OpenClaim := { program := "ytnepdfglhngheaa", sum := "c12486b318f1b10b7a6cbe20eca856bab93a3dbd87937fa9425ce71c08e2313e", func := "ephemeris/ephemerislaw1.RecurLists", spec := "recurLists", unfollowed := true, recurses := true, apart := false }
def RecurListsSaid : Prop := recurListsRow.holds Try.pinned (OpenSpec.ofChange recurListsSpec)

/-- ITS FALSE NEIGHBOUR: 'it returns false'. Refute it at one input. -/
def recurListsWrong : ChangeSpec := { name := "recurLists", fn := fun _ => fun
  | [d1, d2, d3] => { results := [.lit (.bool false)], args := [d1, d2, d3] }
  | _ => none }
def RecurListsWrongFalsely : Prop := recurListsRow.holds Try.pinned (OpenSpec.ofChange recurListsWrong)

/-- 'ephemerislaw1.RecurDiffs': WHATEVER THE INPUT: true; the input reads as it did. -/
def recurDiffsSpec : ChangeSpec := { name := "recurDiffs", fn := fun _ => fun
  | [d1, d2, d3, d4] => { results := [.lit (.bool true)], args := [d1, d2, d3, d4] }
  | _ => none }
def recurDiffsRow : OpenClaim := { program := "ytnepdfglhngheaa", sum := "c12486b318f1b10b7a6cbe20eca856bab93a3dbd87937fa9425ce71c08e2313e", func := "ephemeris/ephemerislaw1.RecurDiffs", spec := "recurDiffs", unfollowed := true, recurses := true, apart := false }
def RecurDiffsSaid : Prop := recurDiffsRow.holds Try.pinned (OpenSpec.ofChange recurDiffsSpec)

/-- ITS FALSE NEIGHBOUR: 'it returns false'. Refute it at one input. -/
def recurDiffsWrong : ChangeSpec := { name := "recurDiffs", fn := fun _ => fun
  | [d1, d2, d3, d4] => { results := [.lit (.bool false)], args := [d1, d2, d3, d4] }
  | _ => none }
def RecurDiffsWrongFalsely : Prop := recurDiffsRow.holds Try.pinned (OpenSpec.ofChange recurDiffsWrong)

/-- 'ephemerislaw1.CompileLeasts': WHATEVER THE INPUT: true; the input reads as it did. -/
def compileLeastsSpec : ChangeSpec := { name := "compileLeasts", fn := fun _ => fun
  | [d] => { results := [.lit (.bool true)], args := [d] }
  | _ => none }
def compileLeastsRow : OpenClaim := { program := "ytnepdfglhngheaa", sum := "c12486b318f1b10b7a6cbe20eca856bab93a3dbd87937fa9425ce71c08e2313e", func := "ephemeris/ephemerislaw1.CompileLeasts", spec := "compileLeasts", unfollowed := true, recurses := true, apart := false }
def CompileLeastsSaid : Prop := compileLeastsRow.holds Try.pinned (OpenSpec.ofChange compileLeastsSpec)

/-- ITS FALSE NEIGHBOUR: 'it returns false'. Refute it at one input. -/
def compileLeastsWrong : ChangeSpec := { name := "compileLeasts", fn := fun _ => fun
  | [d] => { results := [.lit (.bool false)], args := [d] }
  | _ => none }
def CompileLeastsWrongFalsely : Prop := compileLeastsRow.holds Try.pinned (OpenSpec.ofChange compileLeastsWrong)

/- THE SECOND FORM. 'bulk': how many values and letters a reading holds, each counted each time it is reached (what is shared counts as often as it is met; a slice's spare places count too). A statement '..UptoSaid' is the law's where the arguments, and the package variables that the reading takes, are together of bulk at most 1048576: NARROWER than '..Said'. Prove '..Said' where nothing that the law and all that it calls make is longer than what came in: it says more and counts as full. Else prove '..UptoSaid'. A law counts once. -/
mutual
def uptoBulk {H : Type} : DataW H → Nat
  | .lit (.string bytes) => bytes.length + 1
  | .lit _ => 1
  | .nil => 1
  | .ptr d => uptoBulk d + 1
  | .slice elems spare => uptoBulkAll elems + uptoBulkAll spare + 1
  | .agg parts => uptoBulkAll parts + 1
  | .iface _ d => uptoBulk d + 1
  | .map entries => uptoBulkEntries entries + 1
  | .held _ => 1
def uptoBulkAll {H : Type} : List (DataW H) → Nat
  | [] => 0
  | d :: r => uptoBulk d + uptoBulkAll r
def uptoBulkEntries {H : Type} : List (Lit × DataW H) → Nat
  | [] => 0
  | x :: r => uptoBulkEntry x + uptoBulkEntries r
def uptoBulkEntry {H : Type} : Lit × DataW H → Nat
  | (.string bytes, d) => bytes.length + uptoBulk d + 1
  | (_, d) => uptoBulk d + 1
 end
def uptoSmall : (H : Type) → List (DataW H) → Bool := fun _ ds => decide (uptoBulkAll ds ≤ 1048576)
def OpenSpec.upto (s : _root_.Go.ChangeSpec) : _root_.Go.OpenSpec := { _root_.Go.OpenSpec.ofChange s with cond := some uptoSmall }

/-- 'ephemerislaw1.ObservedExtends', WHERE WHAT IT READS IS OF BULK AT MOST 1048576: true; the input reads as it did. -/
def observedExtendsUptoRow : OpenClaim := { program := "ytnepdfglhngheaa", sum := "c12486b318f1b10b7a6cbe20eca856bab93a3dbd87937fa9425ce71c08e2313e", func := "ephemeris/ephemerislaw1.ObservedExtends", spec := "observedExtends", apart := false, narrowed := true }
def ObservedExtendsUptoSaid : Prop := observedExtendsUptoRow.holds Try.pinned (OpenSpec.upto observedExtendsSpec)

/-- 'ephemerislaw1.ObservedOfs', WHERE WHAT IT READS IS OF BULK AT MOST 1048576: true; the input reads as it did. -/
def observedOfsUptoRow : OpenClaim := { program := "ytnepdfglhngheaa", sum := "c12486b318f1b10b7a6cbe20eca856bab93a3dbd87937fa9425ce71c08e2313e", func := "ephemeris/ephemerislaw1.ObservedOfs", spec := "observedOfs", unfollowed := true, recurses := true, apart := false, narrowed := true }
def ObservedOfsUptoSaid : Prop := observedOfsUptoRow.holds Try.pinned (OpenSpec.upto observedOfsSpec)

/-- 'ephemerislaw1.FracNears', WHERE WHAT IT READS IS OF BULK AT MOST 1048576: true; the input reads as it did. -/
def fracNearsUptoRow : OpenClaim := { program := "ytnepdfglhngheaa", sum := "c12486b318f1b10b7a6cbe20eca856bab93a3dbd87937fa9425ce71c08e2313e", func := "ephemeris/ephemerislaw1.FracNears", spec := "fracNears", apart := false, narrowed := true }
def FracNearsUptoSaid : Prop := fracNearsUptoRow.holds Try.pinned (OpenSpec.upto fracNearsSpec)

/-- 'ephemerislaw1.RecurLists', WHERE WHAT IT READS IS OF BULK AT MOST 1048576: true; the input reads as it did. -/
def recurListsUptoRow : OpenClaim := { program := "ytnepdfglhngheaa", sum := "c12486b318f1b10b7a6cbe20eca856bab93a3dbd87937fa9425ce71c08e2313e", func := "ephemeris/ephemerislaw1.RecurLists", spec := "recurLists", unfollowed := true, recurses := true, apart := false, narrowed := true }
def RecurListsUptoSaid : Prop := recurListsUptoRow.holds Try.pinned (OpenSpec.upto recurListsSpec)

/-- 'ephemerislaw1.RecurDiffs', WHERE WHAT IT READS IS OF BULK AT MOST 1048576: true; the input reads as it did. -/
def recurDiffsUptoRow : OpenClaim := { program := "ytnepdfglhngheaa", sum := "c12486b318f1b10b7a6cbe20eca856bab93a3dbd87937fa9425ce71c08e2313e", func := "ephemeris/ephemerislaw1.RecurDiffs", spec := "recurDiffs", unfollowed := true, recurses := true, apart := false, narrowed := true }
def RecurDiffsUptoSaid : Prop := recurDiffsUptoRow.holds Try.pinned (OpenSpec.upto recurDiffsSpec)

/-- 'ephemerislaw1.CompileLeasts', WHERE WHAT IT READS IS OF BULK AT MOST 1048576: true; the input reads as it did. -/
def compileLeastsUptoRow : OpenClaim := { program := "ytnepdfglhngheaa", sum := "c12486b318f1b10b7a6cbe20eca856bab93a3dbd87937fa9425ce71c08e2313e", func := "ephemeris/ephemerislaw1.CompileLeasts", spec := "compileLeasts", unfollowed := true, recurses := true, apart := false, narrowed := true }
def CompileLeastsUptoSaid : Prop := compileLeastsUptoRow.holds Try.pinned (OpenSpec.upto compileLeastsSpec)

end Rows
end Go.Proofs.Ytnepdfglhngheaa
