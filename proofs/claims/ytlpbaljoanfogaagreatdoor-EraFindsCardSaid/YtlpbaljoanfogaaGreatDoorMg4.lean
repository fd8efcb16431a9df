/- Several texts in one: Cat11, Lex2. -/
import Derived.Test.YtlpbaljoanfogaaGreatDoorMgX
import Derived.Test.YtlpbaljoanfogaaGreatDoorMgZ
import Derived.Test.YtlpbaljoanfogaaGreatDoorMgA
set_option linter.unusedSimpArgs false
namespace Go.Proofs.YtlpbaljoanfogaaGreatDoor
set_option linter.unusedVariables false
set_option maxRecDepth 100000
open Go.RowKit Go.Shelf
abbrev yrV (row : List UInt8) (a1 a2 : Option Addr) (n1 c1 n2 c2 g : Nat) : Value := .agg #[.string (tkS (ruleL row).nm), .int .i64 (ruleL row).ep, .int .i64 (calN row : Int), .slice a1 n1 c1, .slice a2 n2 c2, .slice (some ⟨g, 0, none⟩) (calN row) (calN row), .int .i64 (shortOf (msL row)), .int .i64 (longOf (msL row)), .int .i64 (daysTo (shortOf (msL row)) (longOf (msL row)) (lsL row) (calN row : Int))]
abbrev yrW (row : List UInt8) (a1 a2 : Option Addr) (n1 c1 n2 c2 g : Nat) : Obj := .cells #[.string (tkS (ruleL row).nm), .int .i64 (ruleL row).ep, .int .i64 (calN row : Int), .slice a1 n1 c1, .slice a2 n2 c2, .slice (some ⟨g, 0, none⟩) (calN row) (calN row), .int .i64 (shortOf (msL row)), .int .i64 (longOf (msL row)), .int .i64 (daysTo (shortOf (msL row)) (longOf (msL row)) (lsL row) (calN row : Int))] 40
def FromY (row : List UInt8) (x a b d ee : Int) : Prop := ∀ (w : World) (g : Nat) (a1 a2 : Option Addr) (n1 c1 n2 c2 : Nat), MarksAt w g (calN row) (lsL row) → CalAt w a1 a2 n1 n2 (msL row) (lsL row) → Calls Tryz.prog 15 #[yrV row a1 a2 n1 c1 n2 c2 g, .int .i64 x] w fun e w' => e = .returned (.tuple #[.agg #[.int .i64 a, .int .i64 b, .int .i64 d], .int .i64 ee]) ∧ Below w.heap.size w w'
def ToY (row : List UInt8) (y m d n ee : Int) : Prop := ∀ (w : World) (g : Nat) (a1 a2 : Option Addr) (n1 c1 n2 c2 : Nat), MarksAt w g (calN row) (lsL row) → CalAt w a1 a2 n1 n2 (msL row) (lsL row) → Calls Tryz.prog 21 #[yrV row a1 a2 n1 c1 n2 c2 g, .agg #[.int .i64 y, .int .i64 m, .int .i64 d]] w fun e w' => e = .returned (.tuple #[.int .i64 n, .int .i64 ee]) ∧ Below w.heap.size w w'
theorem str_back (s : ByteArray) : (⟨s.data.toList.toArray⟩ : ByteArray) = s := by simp
theorem named_at {s : ByteArray} {row : List UInt8} (hro : rowOf s.data.toList = some row) (w : World) (m : Int) (hm : w.cell? ⟨0, 0, none⟩ = some (.int .i64 m)) :
    Calls Tryz.prog 13 #[.string s] w fun e w' => ∃ v, e = .returned (.tuple #[v, .bool true]) ∧ YearsRet row w v w' := by
  have h := ref_Named s.data.toList w m hm
  rw [str_back] at h
  unfold NamedPost at h
  rw [hro] at h
  exact h
end Go.Proofs.YtlpbaljoanfogaaGreatDoor

set_option linter.unusedSimpArgs false
namespace Go.Proofs.YtlpbaljoanfogaaGreatDoor
set_option linter.unusedVariables false
open Go.RowKit
section
variable {P : Program} {l : List Oper} {Q : Exit → Act → World → Prop} {md : Region.Mode} {S : World → Prop}
theorem lex_step2 {i j : Nat} {oi oj : Oper} {fuel : Nat} {listed : Array Bool} {a : Act} {w : World} (hi : l[i]? = some oi) (hj : l[j]? = some oj) (hr : Region.ready md l.toArray listed = [i, j]) (hw : Region.wanted oi (yielded l.toArray a.tmps) = true) (hw' : Region.wanted oj (yielded l.toArray a.tmps) = true)
    (h : ∀ K' : Act → World → Prop, Shut (∀ a w, S w → (S w → wpAnyH P md l.toArray Q S fuel (listed.setIfInBounds i true) a w) → K' a w) → Oper.wp P oi a w K' Q)
    (h' : ∀ K' : Act → World → Prop, Shut (∀ a w, S w → (S w → wpAnyH P md l.toArray Q S fuel (listed.setIfInBounds j true) a w) → K' a w) → Oper.wp P oj a w K' Q) : wpAnyH P md l.toArray Q S (fuel + 1) listed a w :=
  wpAnyH_ready hr (by simp) (AllReadyH.cons (o := oi) (by simpa using hi) (fun K hK => by rw [if_pos hw]; exact h K hK) (AllReadyH.cons (o := oj) (by simpa using hj) (fun K hK => by rw [if_pos hw']; exact h' K hK) AllReadyH.nil))
end
theorem one_set3 (w : World) (b : Nat) (u0 u1 u2 : Value) : OneKept b w (((w.setCell ⟨b, 0, none⟩ u0).setCell ⟨b, 1, none⟩ u1).setCell ⟨b, 2, none⟩ u2) := ((((OneKept.refl b w).set 0 u0).set 1 u1).set 2 u2)
end Go.Proofs.YtlpbaljoanfogaaGreatDoor
