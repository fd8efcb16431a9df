/-
  No cell of these rows narrows 'for every input' (looked for: loops, veiled, ifaces, maps, wideKeys, modest, calm, conditions, laid).
  DERIVED. THE GIVEN ROWS OF THIS SEAT. 3 by the template 'for every input the law returns true; each argument reads behind the call as it read before'; 0 by the template 'total and deterministic' (their statements: YtjjmbnflhldoeaaTotals.lean).
  GIVEN WITH THE SEED: the statements are not yours to turn. If you find one false, say at which input.
  Laid BY PROGRAM, IN A SANDBOX (cutbox-rows.mjs): the forced cells as the released guide's own fill.sh prints them over the translation d8cc30e60b1b4fa1… (all of the seat's roots in one cut). By AI agents, Wed Nov 11 2026. No macro, syntax, notation, axiom, sorry.
-/
import Derived.Test.YtjjmbnflhldoeaaChecked
import GoSem.Claim
import GoSem.ClaimJoined
import GoSem.ClaimMapViews
import Derived.JoinedTies
import Derived.KernelRfl
namespace Go.Proofs.Ytjjmbnflhldoeaa
/- THE CELL 'sum', in the pinned program and in every row, IS THE sha256 OF THE DUMP (.gsa) THAT YtjjmbnflhldoeaaProg.lean LOADS. Nothing in Lean hashes anything: it is a label: what it is worth is what the hold of that sum in a sandbox is worth. -/
noncomputable def Try.pinned : Pinned := { name := "ytjjmbnflhldoeaa", sum := "d8cc30e60b1b4fa1ab1db2f440d6d672331ae876faf1143f4b0de322e3e30060", checked := Try.checked }
namespace Rows
def none {H : Type} : Left H := { results := [], args := [] }

/-- 'ephemerislaw1.RecurNormals': WHATEVER THE INPUT: true; the input reads as it did. -/
def recurNormalsSpec : ChangeSpec := { name := "recurNormals", fn := fun _ => fun
  | [d] => { results := [.lit (.bool true)], args := [d] }
  | _ => none }
def recurNormalsRow : OpenClaim := { program := "ytjjmbnflhldoeaa", sum := "d8cc30e60b1b4fa1ab1db2f440d6d672331ae876faf1143f4b0de322e3e30060", func := "ephemeris/ephemerislaw1.RecurNormals", spec := "recurNormals", unfollowed := true, recurses := true, apart := false }
def RecurNormalsSaid : Prop := recurNormalsRow.holds Try.pinned (OpenSpec.ofChange recurNormalsSpec)

/-- ITS FALSE NEIGHBOUR: 'it returns false'. Refute it at one input. -/
def recurNormalsWrong : ChangeSpec := { name := "recurNormals", fn := fun _ => fun
  | [d] => { results := [.lit (.bool false)], args := [d] }
  | _ => none }
def RecurNormalsWrongFalsely : Prop := recurNormalsRow.holds Try.pinned (OpenSpec.ofChange recurNormalsWrong)

/-- 'ephemerislaw1.ObservedOfs': WHATEVER THE INPUT: true; the input reads as it did. -/
def observedOfsSpec : ChangeSpec := { name := "observedOfs", fn := fun _ => fun
  | [d1, d2, d3] => { results := [.lit (.bool true)], args := [d1, d2, d3] }
  | _ => none }
def observedOfsRow : OpenClaim := { program := "ytjjmbnflhldoeaa", sum := "d8cc30e60b1b4fa1ab1db2f440d6d672331ae876faf1143f4b0de322e3e30060", func := "ephemeris/ephemerislaw1.ObservedOfs", spec := "observedOfs", unfollowed := true, recurses := true, apart := false }
def ObservedOfsSaid : Prop := observedOfsRow.holds Try.pinned (OpenSpec.ofChange observedOfsSpec)

/-- ITS FALSE NEIGHBOUR: 'it returns false'. Refute it at one input. -/
def observedOfsWrong : ChangeSpec := { name := "observedOfs", fn := fun _ => fun
  | [d1, d2, d3] => { results := [.lit (.bool false)], args := [d1, d2, d3] }
  | _ => none }
def ObservedOfsWrongFalsely : Prop := observedOfsRow.holds Try.pinned (OpenSpec.ofChange observedOfsWrong)

/-- 'ephemerislaw1.ObservedExtends': WHATEVER THE INPUT: true; the input reads as it did. -/
def observedExtendsSpec : ChangeSpec := { name := "observedExtends", fn := fun _ => fun
  | [d1, d2] => { results := [.lit (.bool true)], args := [d1, d2] }
  | _ => none }
def observedExtendsRow : OpenClaim := { program := "ytjjmbnflhldoeaa", sum := "d8cc30e60b1b4fa1ab1db2f440d6d672331ae876faf1143f4b0de322e3e30060", func := "ephemeris/ephemerislaw1.ObservedExtends", spec := "observedExtends", apart := false }
def ObservedExtendsSaid : Prop := observedExtendsRow.holds Try.pinned (OpenSpec.ofChange observedExtendsSpec)

/-- ITS FALSE NEIGHBOUR: 'it returns false'. Refute it at one input. -/
def observedExtendsWrong : ChangeSpec := { name := "observedExtends", fn := fun _ => fun
  | [d1, d2] => { results := [.lit (.bool false)], args := [d1, d2] }
  | _ => none }
def ObservedExtendsWrongFalsely : Prop := observedExtendsRow.holds Try.pinned (OpenSpec.ofChange observedExtendsWrong)

/- THE SECOND FORM. 'bulk': how many values and letters a reading holds, each counted each time it is reached (what is shared counts as often as it is met; a slice's spare places count too). A statement '..UptoSaid' is the law's where the arguments, and the package variables that the reading takes, are together of bulk at most 1048576: NARROWER than '..Said'. Prove '..Said' where nothing that the law and all that it calls make is longer than what came in: it says more and counts as full. Else prove '..UptoSaid'. A law counts once. -/
mutual
def uptoBulk {H : Type} : DataW H → Nat
  | .lit (.string bytes) => bytes.length + 1
  | .lit _ => 1
  | .nil => 1
  | .ptr d => uptoBulk d + 1
  | .slice elems spare => uptoBulkAll elems + uptoBulkAll spare + 1
  | .agg parts => uptoBulkAll parts + 1
  | .iface _ d => uptoBulk d + 1
  | .map entries => uptoBulkEntries entries + 1
  | .held _ => 1
def uptoBulkAll {H : Type} : List (DataW H) → Nat
  | [] => 0
  | d :: r => uptoBulk d + uptoBulkAll r
def uptoBulkEntries {H : Type} : List (Lit × DataW H) → Nat
  | [] => 0
  | x :: r => uptoBulkEntry x + uptoBulkEntries r
def uptoBulkEntry {H : Type} : Lit × DataW H → Nat
  | (.string bytes, d) => bytes.length + uptoBulk d + 1
  | (_, d) => uptoBulk d + 1
 end
def uptoSmall : (H : Type) → List (DataW H) → Bool := fun _ ds => decide (uptoBulkAll ds ≤ 1048576)
def OpenSpec.upto (s : _root_.Go.ChangeSpec) : _root_.Go.OpenSpec := { _root_.Go.OpenSpec.ofChange s with cond := some uptoSmall }

/-- 'ephemerislaw1.RecurNormals', WHERE WHAT IT READS IS OF BULK AT MOST 1048576: true; the input reads as it did. -/
def recurNormalsUptoRow : OpenClaim := { program := "ytjjmbnflhldoeaa", sum := "d8cc30e60b1b4fa1ab1db2f440d6d672331ae876faf1143f4b0de322e3e30060", func := "ephemeris/ephemerislaw1.RecurNormals", spec := "recurNormals", unfollowed := true, recurses := true, apart := false, narrowed := true }
def RecurNormalsUptoSaid : Prop := recurNormalsUptoRow.holds Try.pinned (OpenSpec.upto recurNormalsSpec)

/-- 'ephemerislaw1.ObservedOfs', WHERE WHAT IT READS IS OF BULK AT MOST 1048576: true; the input reads as it did. -/
def observedOfsUptoRow : OpenClaim := { program := "ytjjmbnflhldoeaa", sum := "d8cc30e60b1b4fa1ab1db2f440d6d672331ae876faf1143f4b0de322e3e30060", func := "ephemeris/ephemerislaw1.ObservedOfs", spec := "observedOfs", unfollowed := true, recurses := true, apart := false, narrowed := true }
def ObservedOfsUptoSaid : Prop := observedOfsUptoRow.holds Try.pinned (OpenSpec.upto observedOfsSpec)

/-- 'ephemerislaw1.ObservedExtends', WHERE WHAT IT READS IS OF BULK AT MOST 1048576: true; the input reads as it did. -/
def observedExtendsUptoRow : OpenClaim := { program := "ytjjmbnflhldoeaa", sum := "d8cc30e60b1b4fa1ab1db2f440d6d672331ae876faf1143f4b0de322e3e30060", func := "ephemeris/ephemerislaw1.ObservedExtends", spec := "observedExtends", apart := false, narrowed := true }
def ObservedExtendsUptoSaid : Prop := observedExtendsUptoRow.holds Try.pinned (OpenSpec.upto observedExtendsSpec)

end Rows
end Go.Proofs.Ytjjmbnflhldoeaa
