/- Several texts in one: Both, Cat10. -/
import Derived.Test.YtlpbaljoanfogaaGreatDoorMgJ
import Derived.Test.YtlpbaljoanfogaaGreatDoorMgX
set_option linter.unusedSimpArgs false
namespace Go.Proofs.YtlpbaljoanfogaaGreatDoor
set_option linter.unusedVariables false
set_option maxRecDepth 100000
open Go.RowKit
end Go.Proofs.YtlpbaljoanfogaaGreatDoor

set_option linter.unusedSimpArgs false
namespace Go.Proofs.YtlpbaljoanfogaaGreatDoor
set_option linter.unusedVariables false
set_option maxRecDepth 100000
open Go.RowKit Go.Shelf
abbrev dateO (a b d : Int) : Obj := .cells #[.int .i64 a, .int .i64 b, .int .i64 d] 26
abbrev calA (row : List UInt8) (a1 a2 : Option Addr) (n1 c1 n2 c2 : Nat) : Value := .agg #[.string (tkS (ruleL row).nm), .int .i64 (ruleL row).ep, .int .i64 (calN row : Int), .slice a1 n1 c1, .slice a2 n2 c2]
abbrev calAO (row : List UInt8) (a1 a2 : Option Addr) (n1 c1 n2 c2 : Nat) : Obj := .cells #[.string (tkS (ruleL row).nm), .int .i64 (ruleL row).ep, .int .i64 (calN row : Int), .slice a1 n1 c1, .slice a2 n2 c2] 36
def FromC (row : List UInt8) (x a b d ee : Int) : Prop := ∀ (w : World) (a1 a2 : Option Addr) (n1 c1 n2 c2 : Nat), n1 ≤ c1 → CalAt w a1 a2 n1 n2 (msL row) (lsL row) → Calls Tryz.prog 29 #[calA row a1 a2 n1 c1 n2 c2, .int .i64 x] w fun e w' => e = .returned (.tuple #[.agg #[.int .i64 a, .int .i64 b, .int .i64 d], .int .i64 ee]) ∧ Below w.heap.size w w'
def ToC (row : List UInt8) (y m d n ee : Int) : Prop := ∀ (w : World) (a1 a2 : Option Addr) (n1 c1 n2 c2 : Nat), n1 ≤ c1 → CalAt w a1 a2 n1 n2 (msL row) (lsL row) → Calls Tryz.prog 47 #[calA row a1 a2 n1 c1 n2 c2, .agg #[.int .i64 y, .int .i64 m, .int .i64 d]] w fun e w' => e = .returned (.tuple #[.int .i64 n, .int .i64 ee]) ∧ Below w.heap.size w w'
def fromB (nl : List UInt8) (x y : Int) (k : Nat) (r' : Int) : Bool := match rowOf nl with
  | none => false
  | some r => decide (nyOf (shortOf (msL r)) (longOf (msL r)) (ruleL r).ep (calN r : Int) (lsL r) y ≤ x ∧ x < nyOf (shortOf (msL r)) (longOf (msL r)) (ruleL r).ep (calN r : Int) (lsL r) (y + 1) ∧ findM (flag (lsL r) (placeOf (calN r : Int) y)) (msL r) (x - nyOf (shortOf (msL r)) (longOf (msL r)) (ruleL r).ep (calN r : Int) (lsL r) y) 0 = (k, r'))
theorem from_row {nl : List UInt8} {x y : Int} {k : Nat} {r' : Int} (h : fromB nl x y k r' = true) (y1 : -10000 ≤ y) (y2 : y ≤ 10000) (x1 : -4000000 ≤ x) (x2 : x ≤ 4000000) : ∃ r, rowOf nl = some r ∧ FromC r x y ((k : Int) + 1) (r' + 1) 0 := by
  unfold fromB at h
  cases hr : rowOf nl with
  | none => rw [hr] at h; exact absurd h (by simp)
  | some r =>
    rw [hr] at h
    obtain ⟨h1, h2, h3⟩ := of_decide_eq_true h
    have hrow : r ∈ rowsL := List.mem_of_find?_eq_some hr
    have q := row_cal hrow
    have ok := calOk_of q
    have hin : InYear (msL r) (lsL r) (ruleL r).ep (calN r : Int) y x := ⟨h1, h2⟩
    refine ⟨r, rfl, fun w a1 a2 n1 c1 n2 c2 k1 hc => ?_⟩
    exact arith_FromDay_ok w (tkS (ruleL r).nm) (ruleL r).ep (calN r) a1 a2 n1 c1 n2 c2 (msL r) (lsL r) x y ((k : Int) + 1) (r' + 1) 0 (tkS_le hrow) k1 hc q (fun W hW => arith_fromDay_yes W (tkS (ruleL r).nm) (ruleL r).ep (calN r) a1 a2 n1 c1 n2 c2 (msL r) (lsL r) x (y + 10002).toNat y (place_of_year ok hin y1 y2) (by omega) y1 y2 ok x1 x2 (hc.then_ hW) k r' h3 hin)
end Go.Proofs.YtlpbaljoanfogaaGreatDoor
